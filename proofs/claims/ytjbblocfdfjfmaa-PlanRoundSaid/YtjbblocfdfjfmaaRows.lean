/-
  No cell of these rows narrows 'for every input' (looked for: loops, veiled, ifaces, maps, wideKeys, modest, calm, conditions, laid).
  DERIVED. THE GIVEN ROWS OF THIS SEAT. 5 by the template 'for every input the law returns true; each argument reads behind the call as it read before'; 0 by the template 'total and deterministic' (their statements: YtjbblocfdfjfmaaTotals.lean).
  GIVEN WITH THE SEED: the statements are not yours to turn. If you find one false, say at which input.
  Laid BY PROGRAM, IN A SANDBOX (cutbox-rows.mjs): the forced cells as the released guide's own fill.sh prints them over the translation b4af4e3bde018f75… (all of the seat's roots in one cut). By AI agents, Wed Nov 11 2026. No macro, syntax, notation, axiom, sorry.
-/
import Derived.Test.YtjbblocfdfjfmaaChecked
import GoSem.Claim
import GoSem.ClaimJoined
import GoSem.ClaimMapViews
import Derived.JoinedTies
import Derived.KernelRfl
namespace Go.Proofs.Ytjbblocfdfjfmaa
/- THE CELL 'sum', in the pinned program and in every row, IS THE sha256 OF THE DUMP (.gsa) THAT YtjbblocfdfjfmaaProg.lean LOADS. Nothing in Lean hashes anything: it is a label: what it is worth is what the hold of that sum in a sandbox is worth. -/
noncomputable def Try.pinned : Pinned := { name := "ytjbblocfdfjfmaa", sum := "b4af4e3bde018f7532d254f9f7e7e1f64c35fad79004ac758ee91c5e696fc3d5", checked := Try.checked }
namespace Rows
def none {H : Type} : Left H := { results := [], args := [] }

/-- 'priorylaw07.PlanTurn': WHATEVER THE INPUT: true; the input reads as it did. -/
def planTurnSpec : ChangeSpec := { name := "planTurn", fn := fun _ => fun
  | [d1, d2] => { results := [.lit (.bool true)], args := [d1, d2] }
  | _ => none }
def planTurnRow : OpenClaim := { program := "ytjbblocfdfjfmaa", sum := "b4af4e3bde018f7532d254f9f7e7e1f64c35fad79004ac758ee91c5e696fc3d5", func := "priory/priorylaw07.PlanTurn", spec := "planTurn", unfollowed := true, recurses := true, apart := false }
def PlanTurnSaid : Prop := planTurnRow.holds Try.pinned (OpenSpec.ofChange planTurnSpec)

/-- ITS FALSE NEIGHBOUR: 'it returns false'. Refute it at one input. -/
def planTurnWrong : ChangeSpec := { name := "planTurn", fn := fun _ => fun
  | [d1, d2] => { results := [.lit (.bool false)], args := [d1, d2] }
  | _ => none }
def PlanTurnWrongFalsely : Prop := planTurnRow.holds Try.pinned (OpenSpec.ofChange planTurnWrong)

/-- 'priorylaw07.PlanRound': WHATEVER THE INPUT: true; the input reads as it did. -/
def planRoundSpec : ChangeSpec := { name := "planRound", fn := fun _ => fun
  | [d1, d2] => { results := [.lit (.bool true)], args := [d1, d2] }
  | _ => none }
def planRoundRow : OpenClaim := { program := "ytjbblocfdfjfmaa", sum := "b4af4e3bde018f7532d254f9f7e7e1f64c35fad79004ac758ee91c5e696fc3d5", func := "priory/priorylaw07.PlanRound", spec := "planRound", unfollowed := true, recurses := true, apart := false }
def PlanRoundSaid : Prop := planRoundRow.holds Try.pinned (OpenSpec.ofChange planRoundSpec)

/-- ITS FALSE NEIGHBOUR: 'it returns false'. Refute it at one input. -/
def planRoundWrong : ChangeSpec := { name := "planRound", fn := fun _ => fun
  | [d1, d2] => { results := [.lit (.bool false)], args := [d1, d2] }
  | _ => none }
def PlanRoundWrongFalsely : Prop := planRoundRow.holds Try.pinned (OpenSpec.ofChange planRoundWrong)

/-- 'priorylaw07.PlanFrames': WHATEVER THE INPUT: true; the input reads as it did. -/
def planFramesSpec : ChangeSpec := { name := "planFrames", fn := fun _ => fun
  | [d1, d2] => { results := [.lit (.bool true)], args := [d1, d2] }
  | _ => none }
def planFramesRow : OpenClaim := { program := "ytjbblocfdfjfmaa", sum := "b4af4e3bde018f7532d254f9f7e7e1f64c35fad79004ac758ee91c5e696fc3d5", func := "priory/priorylaw07.PlanFrames", spec := "planFrames", unfollowed := true, recurses := true, apart := false }
def PlanFramesSaid : Prop := planFramesRow.holds Try.pinned (OpenSpec.ofChange planFramesSpec)

/-- ITS FALSE NEIGHBOUR: 'it returns false'. Refute it at one input. -/
def planFramesWrong : ChangeSpec := { name := "planFrames", fn := fun _ => fun
  | [d1, d2] => { results := [.lit (.bool false)], args := [d1, d2] }
  | _ => none }
def PlanFramesWrongFalsely : Prop := planFramesRow.holds Try.pinned (OpenSpec.ofChange planFramesWrong)

/-- 'priorylaw07.PlanApart': WHATEVER THE INPUT: true; the input reads as it did. -/
def planApartSpec : ChangeSpec := { name := "planApart", fn := fun _ => fun
  | [d] => { results := [.lit (.bool true)], args := [d] }
  | _ => none }
def planApartRow : OpenClaim := { program := "ytjbblocfdfjfmaa", sum := "b4af4e3bde018f7532d254f9f7e7e1f64c35fad79004ac758ee91c5e696fc3d5", func := "priory/priorylaw07.PlanApart", spec := "planApart", unfollowed := true, recurses := true, apart := false }
def PlanApartSaid : Prop := planApartRow.holds Try.pinned (OpenSpec.ofChange planApartSpec)

/-- ITS FALSE NEIGHBOUR: 'it returns false'. Refute it at one input. -/
def planApartWrong : ChangeSpec := { name := "planApart", fn := fun _ => fun
  | [d] => { results := [.lit (.bool false)], args := [d] }
  | _ => none }
def PlanApartWrongFalsely : Prop := planApartRow.holds Try.pinned (OpenSpec.ofChange planApartWrong)

/-- 'priorylaw07.PlanSame': WHATEVER THE INPUT: true; the input reads as it did. -/
def planSameSpec : ChangeSpec := { name := "planSame", fn := fun _ => fun
  | [d1, d2, d3, d4] => { results := [.lit (.bool true)], args := [d1, d2, d3, d4] }
  | _ => none }
def planSameRow : OpenClaim := { program := "ytjbblocfdfjfmaa", sum := "b4af4e3bde018f7532d254f9f7e7e1f64c35fad79004ac758ee91c5e696fc3d5", func := "priory/priorylaw07.PlanSame", spec := "planSame", unfollowed := true, recurses := true, apart := false }
def PlanSameSaid : Prop := planSameRow.holds Try.pinned (OpenSpec.ofChange planSameSpec)

/-- ITS FALSE NEIGHBOUR: 'it returns false'. Refute it at one input. -/
def planSameWrong : ChangeSpec := { name := "planSame", fn := fun _ => fun
  | [d1, d2, d3, d4] => { results := [.lit (.bool false)], args := [d1, d2, d3, d4] }
  | _ => none }
def PlanSameWrongFalsely : Prop := planSameRow.holds Try.pinned (OpenSpec.ofChange planSameWrong)

/- THE SECOND FORM. 'bulk': how many values and letters a reading holds, each counted each time it is reached (what is shared counts as often as it is met; a slice's spare places count too). A statement '..UptoSaid' is the law's where the arguments, and the package variables that the reading takes, are together of bulk at most 1048576: NARROWER than '..Said'. Prove '..Said' where nothing that the law and all that it calls make is longer than what came in: it says more and counts as full. Else prove '..UptoSaid'. A law counts once. -/
mutual
def uptoBulk {H : Type} : DataW H → Nat
  | .lit (.string bytes) => bytes.length + 1
  | .lit _ => 1
  | .nil => 1
  | .ptr d => uptoBulk d + 1
  | .slice elems spare => uptoBulkAll elems + uptoBulkAll spare + 1
  | .agg parts => uptoBulkAll parts + 1
  | .iface _ d => uptoBulk d + 1
  | .map entries => uptoBulkEntries entries + 1
  | .held _ => 1
def uptoBulkAll {H : Type} : List (DataW H) → Nat
  | [] => 0
  | d :: r => uptoBulk d + uptoBulkAll r
def uptoBulkEntries {H : Type} : List (Lit × DataW H) → Nat
  | [] => 0
  | x :: r => uptoBulkEntry x + uptoBulkEntries r
def uptoBulkEntry {H : Type} : Lit × DataW H → Nat
  | (.string bytes, d) => bytes.length + uptoBulk d + 1
  | (_, d) => uptoBulk d + 1
 end
def uptoSmall : (H : Type) → List (DataW H) → Bool := fun _ ds => decide (uptoBulkAll ds ≤ 1048576)
def OpenSpec.upto (s : _root_.Go.ChangeSpec) : _root_.Go.OpenSpec := { _root_.Go.OpenSpec.ofChange s with cond := some uptoSmall }

/-- 'priorylaw07.PlanTurn', WHERE WHAT IT READS IS OF BULK AT MOST 1048576: true; the input reads as it did. -/
def planTurnUptoRow : OpenClaim := { program := "ytjbblocfdfjfmaa", sum := "b4af4e3bde018f7532d254f9f7e7e1f64c35fad79004ac758ee91c5e696fc3d5", func := "priory/priorylaw07.PlanTurn", spec := "planTurn", unfollowed := true, recurses := true, apart := false, narrowed := true }
def PlanTurnUptoSaid : Prop := planTurnUptoRow.holds Try.pinned (OpenSpec.upto planTurnSpec)

/-- 'priorylaw07.PlanRound', WHERE WHAT IT READS IS OF BULK AT MOST 1048576: true; the input reads as it did. -/
def planRoundUptoRow : OpenClaim := { program := "ytjbblocfdfjfmaa", sum := "b4af4e3bde018f7532d254f9f7e7e1f64c35fad79004ac758ee91c5e696fc3d5", func := "priory/priorylaw07.PlanRound", spec := "planRound", unfollowed := true, recurses := true, apart := false, narrowed := true }
def PlanRoundUptoSaid : Prop := planRoundUptoRow.holds Try.pinned (OpenSpec.upto planRoundSpec)

/-- 'priorylaw07.PlanFrames', WHERE WHAT IT READS IS OF BULK AT MOST 1048576: true; the input reads as it did. -/
def planFramesUptoRow : OpenClaim := { program := "ytjbblocfdfjfmaa", sum := "b4af4e3bde018f7532d254f9f7e7e1f64c35fad79004ac758ee91c5e696fc3d5", func := "priory/priorylaw07.PlanFrames", spec := "planFrames", unfollowed := true, recurses := true, apart := false, narrowed := true }
def PlanFramesUptoSaid : Prop := planFramesUptoRow.holds Try.pinned (OpenSpec.upto planFramesSpec)

/-- 'priorylaw07.PlanApart', WHERE WHAT IT READS IS OF BULK AT MOST 1048576: true; the input reads as it did. -/
def planApartUptoRow : OpenClaim := { program := "ytjbblocfdfjfmaa", sum := "b4af4e3bde018f7532d254f9f7e7e1f64c35fad79004ac758ee91c5e696fc3d5", func := "priory/priorylaw07.PlanApart", spec := "planApart", unfollowed := true, recurses := true, apart := false, narrowed := true }
def PlanApartUptoSaid : Prop := planApartUptoRow.holds Try.pinned (OpenSpec.upto planApartSpec)

/-- 'priorylaw07.PlanSame', WHERE WHAT IT READS IS OF BULK AT MOST 1048576: true; the input reads as it did. -/
def planSameUptoRow : OpenClaim := { program := "ytjbblocfdfjfmaa", sum := "b4af4e3bde018f7532d254f9f7e7e1f64c35fad79004ac758ee91c5e696fc3d5", func := "priory/priorylaw07.PlanSame", spec := "planSame", unfollowed := true, recurses := true, apart := false, narrowed := true }
def PlanSameUptoSaid : Prop := planSameUptoRow.holds Try.pinned (OpenSpec.upto planSameSpec)

end Rows
end Go.Proofs.Ytjbblocfdfjfmaa
