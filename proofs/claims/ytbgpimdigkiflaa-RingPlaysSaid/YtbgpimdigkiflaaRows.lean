/-
  No cell of these rows narrows 'for every input' (looked for: loops, veiled, ifaces, maps, wideKeys, modest, calm, conditions, laid).
  DERIVED. THE GIVEN ROWS OF THIS SEAT. 5 by the template 'for every input the law returns true; each argument reads behind the call as it read before'; 0 by the template 'total and deterministic' (their statements: YtbgpimdigkiflaaTotals.lean).
  GIVEN WITH THE SEED: the statements are not yours to turn. If you find one false, say at which input.
  Laid BY PROGRAM, IN A SANDBOX (cutbox-rows.mjs): the forced cells as the released guide's own fill.sh prints them over the translation 56d6829c3eb773d2… (all of the seat's roots in one cut). By AI agents, Wed Nov 11 2026. No macro, syntax, notation, axiom, sorry.
-/
import Derived.Test.YtbgpimdigkiflaaChecked
import GoSem.Claim
import GoSem.ClaimJoined
import GoSem.ClaimMapViews
import Derived.JoinedTies
import Derived.KernelRfl
namespace Go.Proofs.Ytbgpimdigkiflaa
/- THE CELL 'sum', in the pinned program and in every row, IS THE sha256 OF THE DUMP (.gsa) THAT YtbgpimdigkiflaaProg.lean LOADS. Nothing in Lean hashes anything: it is a label: what it is worth is what the hold of that sum in a sandbox is worth. -/
noncomputable def Try.pinned : Pinned := { name := "ytbgpimdigkiflaa", sum := "56d6829c3eb773d2cce63e063e663ebee63a5b05276c9fb2c4c74e841e527a91", checked := Try.checked }
namespace Rows
def none {H : Type} : Left H := { results := [], args := [] }

/-- 'priorylaw19.RingPlays': WHATEVER THE INPUT: true; the input reads as it did. -/
def ringPlaysSpec : ChangeSpec := { name := "ringPlays", fn := fun _ => fun
  | [d1, d2, d3] => { results := [.lit (.bool true)], args := [d1, d2, d3] }
  | _ => none }
def ringPlaysRow : OpenClaim := { program := "ytbgpimdigkiflaa", sum := "56d6829c3eb773d2cce63e063e663ebee63a5b05276c9fb2c4c74e841e527a91", func := "priory/priorylaw19.RingPlays", spec := "ringPlays", unfollowed := true, recurses := true, apart := false }
def RingPlaysSaid : Prop := ringPlaysRow.holds Try.pinned (OpenSpec.ofChange ringPlaysSpec)

/-- ITS FALSE NEIGHBOUR: 'it returns false'. Refute it at one input. -/
def ringPlaysWrong : ChangeSpec := { name := "ringPlays", fn := fun _ => fun
  | [d1, d2, d3] => { results := [.lit (.bool false)], args := [d1, d2, d3] }
  | _ => none }
def RingPlaysWrongFalsely : Prop := ringPlaysRow.holds Try.pinned (OpenSpec.ofChange ringPlaysWrong)

/-- 'priorylaw19.RingSafe': WHATEVER THE INPUT: true; the input reads as it did. -/
def ringSafeSpec : ChangeSpec := { name := "ringSafe", fn := fun _ => fun
  | [d1, d2, d3, d4] => { results := [.lit (.bool true)], args := [d1, d2, d3, d4] }
  | _ => none }
def ringSafeRow : OpenClaim := { program := "ytbgpimdigkiflaa", sum := "56d6829c3eb773d2cce63e063e663ebee63a5b05276c9fb2c4c74e841e527a91", func := "priory/priorylaw19.RingSafe", spec := "ringSafe", unfollowed := true, recurses := true, apart := false }
def RingSafeSaid : Prop := ringSafeRow.holds Try.pinned (OpenSpec.ofChange ringSafeSpec)

/-- ITS FALSE NEIGHBOUR: 'it returns false'. Refute it at one input. -/
def ringSafeWrong : ChangeSpec := { name := "ringSafe", fn := fun _ => fun
  | [d1, d2, d3, d4] => { results := [.lit (.bool false)], args := [d1, d2, d3, d4] }
  | _ => none }
def RingSafeWrongFalsely : Prop := ringSafeRow.holds Try.pinned (OpenSpec.ofChange ringSafeWrong)

/-- 'priorylaw19.RingNone': WHATEVER THE INPUT: true; the input reads as it did. -/
def ringNoneSpec : ChangeSpec := { name := "ringNone", fn := fun _ => fun
  | [d] => { results := [.lit (.bool true)], args := [d] }
  | _ => none }
def ringNoneRow : OpenClaim := { program := "ytbgpimdigkiflaa", sum := "56d6829c3eb773d2cce63e063e663ebee63a5b05276c9fb2c4c74e841e527a91", func := "priory/priorylaw19.RingNone", spec := "ringNone", unfollowed := true, recurses := true, apart := false }
def RingNoneSaid : Prop := ringNoneRow.holds Try.pinned (OpenSpec.ofChange ringNoneSpec)

/-- ITS FALSE NEIGHBOUR: 'it returns false'. Refute it at one input. -/
def ringNoneWrong : ChangeSpec := { name := "ringNone", fn := fun _ => fun
  | [d] => { results := [.lit (.bool false)], args := [d] }
  | _ => none }
def RingNoneWrongFalsely : Prop := ringNoneRow.holds Try.pinned (OpenSpec.ofChange ringNoneWrong)

/-- 'priorylaw19.RingOne': WHATEVER THE INPUT: true; the input reads as it did. -/
def ringOneSpec : ChangeSpec := { name := "ringOne", fn := fun _ => fun
  | [d1, d2, d3, d4] => { results := [.lit (.bool true)], args := [d1, d2, d3, d4] }
  | _ => none }
def ringOneRow : OpenClaim := { program := "ytbgpimdigkiflaa", sum := "56d6829c3eb773d2cce63e063e663ebee63a5b05276c9fb2c4c74e841e527a91", func := "priory/priorylaw19.RingOne", spec := "ringOne", unfollowed := true, recurses := true, apart := false }
def RingOneSaid : Prop := ringOneRow.holds Try.pinned (OpenSpec.ofChange ringOneSpec)

/-- ITS FALSE NEIGHBOUR: 'it returns false'. Refute it at one input. -/
def ringOneWrong : ChangeSpec := { name := "ringOne", fn := fun _ => fun
  | [d1, d2, d3, d4] => { results := [.lit (.bool false)], args := [d1, d2, d3, d4] }
  | _ => none }
def RingOneWrongFalsely : Prop := ringOneRow.holds Try.pinned (OpenSpec.ofChange ringOneWrong)

/-- 'priorylaw19.RingFull': WHATEVER THE INPUT: true; the input reads as it did. -/
def ringFullSpec : ChangeSpec := { name := "ringFull", fn := fun _ => fun
  | [d1, d2, d3] => { results := [.lit (.bool true)], args := [d1, d2, d3] }
  | _ => none }
def ringFullRow : OpenClaim := { program := "ytbgpimdigkiflaa", sum := "56d6829c3eb773d2cce63e063e663ebee63a5b05276c9fb2c4c74e841e527a91", func := "priory/priorylaw19.RingFull", spec := "ringFull", unfollowed := true, recurses := true, apart := false }
def RingFullSaid : Prop := ringFullRow.holds Try.pinned (OpenSpec.ofChange ringFullSpec)

/-- ITS FALSE NEIGHBOUR: 'it returns false'. Refute it at one input. -/
def ringFullWrong : ChangeSpec := { name := "ringFull", fn := fun _ => fun
  | [d1, d2, d3] => { results := [.lit (.bool false)], args := [d1, d2, d3] }
  | _ => none }
def RingFullWrongFalsely : Prop := ringFullRow.holds Try.pinned (OpenSpec.ofChange ringFullWrong)

/- THE SECOND FORM. 'bulk': how many values and letters a reading holds, each counted each time it is reached (what is shared counts as often as it is met; a slice's spare places count too). A statement '..UptoSaid' is the law's where the arguments, and the package variables that the reading takes, are together of bulk at most 1048576: NARROWER than '..Said'. Prove '..Said' where nothing that the law and all that it calls make is longer than what came in: it says more and counts as full. Else prove '..UptoSaid'. A law counts once. -/
mutual
def uptoBulk {H : Type} : DataW H → Nat
  | .lit (.string bytes) => bytes.length + 1
  | .lit _ => 1
  | .nil => 1
  | .ptr d => uptoBulk d + 1
  | .slice elems spare => uptoBulkAll elems + uptoBulkAll spare + 1
  | .agg parts => uptoBulkAll parts + 1
  | .iface _ d => uptoBulk d + 1
  | .map entries => uptoBulkEntries entries + 1
  | .held _ => 1
def uptoBulkAll {H : Type} : List (DataW H) → Nat
  | [] => 0
  | d :: r => uptoBulk d + uptoBulkAll r
def uptoBulkEntries {H : Type} : List (Lit × DataW H) → Nat
  | [] => 0
  | x :: r => uptoBulkEntry x + uptoBulkEntries r
def uptoBulkEntry {H : Type} : Lit × DataW H → Nat
  | (.string bytes, d) => bytes.length + uptoBulk d + 1
  | (_, d) => uptoBulk d + 1
 end
def uptoSmall : (H : Type) → List (DataW H) → Bool := fun _ ds => decide (uptoBulkAll ds ≤ 1048576)
def OpenSpec.upto (s : _root_.Go.ChangeSpec) : _root_.Go.OpenSpec := { _root_.Go.OpenSpec.ofChange s with cond := some uptoSmall }

/-- 'priorylaw19.RingPlays', WHERE WHAT IT READS IS OF BULK AT MOST 1048576: true; the input reads as it did. -/
def ringPlaysUptoRow : OpenClaim := { program := "ytbgpimdigkiflaa", sum := "56d6829c3eb773d2cce63e063e663ebee63a5b05276c9fb2c4c74e841e527a91", func := "priory/priorylaw19.RingPlays", spec := "ringPlays", unfollowed := true, recurses := true, apart := false, narrowed := true }
def RingPlaysUptoSaid : Prop := ringPlaysUptoRow.holds Try.pinned (OpenSpec.upto ringPlaysSpec)

/-- 'priorylaw19.RingSafe', WHERE WHAT IT READS IS OF BULK AT MOST 1048576: true; the input reads as it did. -/
def ringSafeUptoRow : OpenClaim := { program := "ytbgpimdigkiflaa", sum := "56d6829c3eb773d2cce63e063e663ebee63a5b05276c9fb2c4c74e841e527a91", func := "priory/priorylaw19.RingSafe", spec := "ringSafe", unfollowed := true, recurses := true, apart := false, narrowed := true }
def RingSafeUptoSaid : Prop := ringSafeUptoRow.holds Try.pinned (OpenSpec.upto ringSafeSpec)

/-- 'priorylaw19.RingNone', WHERE WHAT IT READS IS OF BULK AT MOST 1048576: true; the input reads as it did. -/
def ringNoneUptoRow : OpenClaim := { program := "ytbgpimdigkiflaa", sum := "56d6829c3eb773d2cce63e063e663ebee63a5b05276c9fb2c4c74e841e527a91", func := "priory/priorylaw19.RingNone", spec := "ringNone", unfollowed := true, recurses := true, apart := false, narrowed := true }
def RingNoneUptoSaid : Prop := ringNoneUptoRow.holds Try.pinned (OpenSpec.upto ringNoneSpec)

/-- 'priorylaw19.RingOne', WHERE WHAT IT READS IS OF BULK AT MOST 1048576: true; the input reads as it did. -/
def ringOneUptoRow : OpenClaim := { program := "ytbgpimdigkiflaa", sum := "56d6829c3eb773d2cce63e063e663ebee63a5b05276c9fb2c4c74e841e527a91", func := "priory/priorylaw19.RingOne", spec := "ringOne", unfollowed := true, recurses := true, apart := false, narrowed := true }
def RingOneUptoSaid : Prop := ringOneUptoRow.holds Try.pinned (OpenSpec.upto ringOneSpec)

/-- 'priorylaw19.RingFull', WHERE WHAT IT READS IS OF BULK AT MOST 1048576: true; the input reads as it did. -/
def ringFullUptoRow : OpenClaim := { program := "ytbgpimdigkiflaa", sum := "56d6829c3eb773d2cce63e063e663ebee63a5b05276c9fb2c4c74e841e527a91", func := "priory/priorylaw19.RingFull", spec := "ringFull", unfollowed := true, recurses := true, apart := false, narrowed := true }
def RingFullUptoSaid : Prop := ringFullUptoRow.holds Try.pinned (OpenSpec.upto ringFullSpec)

end Rows
end Go.Proofs.Ytbgpimdigkiflaa
