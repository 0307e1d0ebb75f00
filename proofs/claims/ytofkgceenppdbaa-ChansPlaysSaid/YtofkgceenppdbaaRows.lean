/-
  No cell of these rows narrows 'for every input' (looked for: loops, veiled, ifaces, maps, wideKeys, modest, calm, conditions, laid).
  DERIVED. THE GIVEN ROWS OF THIS SEAT. 5 by the template 'for every input the law returns true; each argument reads behind the call as it read before'; 0 by the template 'total and deterministic' (their statements: YtofkgceenppdbaaTotals.lean).
  GIVEN WITH THE SEED: the statements are not yours to turn. If you find one false, say at which input.
  Laid BY PROGRAM, IN A SANDBOX (cutbox-rows.mjs): the forced cells as the released guide's own fill.sh prints them over the translation e9c9d70518b944ae… (all of the seat's roots in one cut). By AI agents, Wed Nov 11 2026. No macro, syntax, notation, axiom, sorry.
-/
import Derived.Test.YtofkgceenppdbaaChecked
import GoSem.Claim
import GoSem.ClaimJoined
import GoSem.ClaimMapViews
import Derived.JoinedTies
import Derived.KernelRfl
namespace Go.Proofs.Ytofkgceenppdbaa
/- THE CELL 'sum', in the pinned program and in every row, IS THE sha256 OF THE DUMP (.gsa) THAT YtofkgceenppdbaaProg.lean LOADS. Nothing in Lean hashes anything: it is a label: what it is worth is what the hold of that sum in a sandbox is worth. -/
noncomputable def Try.pinned : Pinned := { name := "ytofkgceenppdbaa", sum := "e9c9d70518b944ae4756c1bd87548b443ff19867111cdabb2a5d2ad947bf6453", checked := Try.checked }
namespace Rows
def none {H : Type} : Left H := { results := [], args := [] }

/-- 'priorylaw20.ChansApart': WHATEVER THE INPUT: true; the input reads as it did. -/
def chansApartSpec : ChangeSpec := { name := "chansApart", fn := fun _ => fun
  | [d1, d2, d3] => { results := [.lit (.bool true)], args := [d1, d2, d3] }
  | _ => none }
def chansApartRow : OpenClaim := { program := "ytofkgceenppdbaa", sum := "e9c9d70518b944ae4756c1bd87548b443ff19867111cdabb2a5d2ad947bf6453", func := "priory/priorylaw20.ChansApart", spec := "chansApart", unfollowed := true, recurses := true, apart := false }
def ChansApartSaid : Prop := chansApartRow.holds Try.pinned (OpenSpec.ofChange chansApartSpec)

/-- ITS FALSE NEIGHBOUR: 'it returns false'. Refute it at one input. -/
def chansApartWrong : ChangeSpec := { name := "chansApart", fn := fun _ => fun
  | [d1, d2, d3] => { results := [.lit (.bool false)], args := [d1, d2, d3] }
  | _ => none }
def ChansApartWrongFalsely : Prop := chansApartRow.holds Try.pinned (OpenSpec.ofChange chansApartWrong)

/-- 'priorylaw20.ChansOrder': WHATEVER THE INPUT: true; the input reads as it did. -/
def chansOrderSpec : ChangeSpec := { name := "chansOrder", fn := fun _ => fun
  | [d1, d2, d3] => { results := [.lit (.bool true)], args := [d1, d2, d3] }
  | _ => none }
def chansOrderRow : OpenClaim := { program := "ytofkgceenppdbaa", sum := "e9c9d70518b944ae4756c1bd87548b443ff19867111cdabb2a5d2ad947bf6453", func := "priory/priorylaw20.ChansOrder", spec := "chansOrder", unfollowed := true, recurses := true, apart := false }
def ChansOrderSaid : Prop := chansOrderRow.holds Try.pinned (OpenSpec.ofChange chansOrderSpec)

/-- ITS FALSE NEIGHBOUR: 'it returns false'. Refute it at one input. -/
def chansOrderWrong : ChangeSpec := { name := "chansOrder", fn := fun _ => fun
  | [d1, d2, d3] => { results := [.lit (.bool false)], args := [d1, d2, d3] }
  | _ => none }
def ChansOrderWrongFalsely : Prop := chansOrderRow.holds Try.pinned (OpenSpec.ofChange chansOrderWrong)

/-- 'priorylaw20.ChansEnds': WHATEVER THE INPUT: true; the input reads as it did. -/
def chansEndsSpec : ChangeSpec := { name := "chansEnds", fn := fun _ => fun
  | [d1, d2, d3] => { results := [.lit (.bool true)], args := [d1, d2, d3] }
  | _ => none }
def chansEndsRow : OpenClaim := { program := "ytofkgceenppdbaa", sum := "e9c9d70518b944ae4756c1bd87548b443ff19867111cdabb2a5d2ad947bf6453", func := "priory/priorylaw20.ChansEnds", spec := "chansEnds", unfollowed := true, recurses := true, apart := false }
def ChansEndsSaid : Prop := chansEndsRow.holds Try.pinned (OpenSpec.ofChange chansEndsSpec)

/-- ITS FALSE NEIGHBOUR: 'it returns false'. Refute it at one input. -/
def chansEndsWrong : ChangeSpec := { name := "chansEnds", fn := fun _ => fun
  | [d1, d2, d3] => { results := [.lit (.bool false)], args := [d1, d2, d3] }
  | _ => none }
def ChansEndsWrongFalsely : Prop := chansEndsRow.holds Try.pinned (OpenSpec.ofChange chansEndsWrong)

/-- 'priorylaw20.ChansPlays': WHATEVER THE INPUT: true; the input reads as it did. -/
def chansPlaysSpec : ChangeSpec := { name := "chansPlays", fn := fun _ => fun
  | [d1, d2, d3] => { results := [.lit (.bool true)], args := [d1, d2, d3] }
  | _ => none }
def chansPlaysRow : OpenClaim := { program := "ytofkgceenppdbaa", sum := "e9c9d70518b944ae4756c1bd87548b443ff19867111cdabb2a5d2ad947bf6453", func := "priory/priorylaw20.ChansPlays", spec := "chansPlays", unfollowed := true, recurses := true, apart := false }
def ChansPlaysSaid : Prop := chansPlaysRow.holds Try.pinned (OpenSpec.ofChange chansPlaysSpec)

/-- ITS FALSE NEIGHBOUR: 'it returns false'. Refute it at one input. -/
def chansPlaysWrong : ChangeSpec := { name := "chansPlays", fn := fun _ => fun
  | [d1, d2, d3] => { results := [.lit (.bool false)], args := [d1, d2, d3] }
  | _ => none }
def ChansPlaysWrongFalsely : Prop := chansPlaysRow.holds Try.pinned (OpenSpec.ofChange chansPlaysWrong)

/-- 'priorylaw20.ChansNone': WHATEVER THE INPUT: true; the input reads as it did. -/
def chansNoneSpec : ChangeSpec := { name := "chansNone", fn := fun _ => fun
  | [d1, d2, d3, d4] => { results := [.lit (.bool true)], args := [d1, d2, d3, d4] }
  | _ => none }
def chansNoneRow : OpenClaim := { program := "ytofkgceenppdbaa", sum := "e9c9d70518b944ae4756c1bd87548b443ff19867111cdabb2a5d2ad947bf6453", func := "priory/priorylaw20.ChansNone", spec := "chansNone", unfollowed := true, recurses := true, apart := false }
def ChansNoneSaid : Prop := chansNoneRow.holds Try.pinned (OpenSpec.ofChange chansNoneSpec)

/-- ITS FALSE NEIGHBOUR: 'it returns false'. Refute it at one input. -/
def chansNoneWrong : ChangeSpec := { name := "chansNone", fn := fun _ => fun
  | [d1, d2, d3, d4] => { results := [.lit (.bool false)], args := [d1, d2, d3, d4] }
  | _ => none }
def ChansNoneWrongFalsely : Prop := chansNoneRow.holds Try.pinned (OpenSpec.ofChange chansNoneWrong)

/- THE SECOND FORM. 'bulk': how many values and letters a reading holds, each counted each time it is reached (what is shared counts as often as it is met; a slice's spare places count too). A statement '..UptoSaid' is the law's where the arguments, and the package variables that the reading takes, are together of bulk at most 1048576: NARROWER than '..Said'. Prove '..Said' where nothing that the law and all that it calls make is longer than what came in: it says more and counts as full. Else prove '..UptoSaid'. A law counts once. -/
mutual
def uptoBulk {H : Type} : DataW H → Nat
  | .lit (.string bytes) => bytes.length + 1
  | .lit _ => 1
  | .nil => 1
  | .ptr d => uptoBulk d + 1
  | .slice elems spare => uptoBulkAll elems + uptoBulkAll spare + 1
  | .agg parts => uptoBulkAll parts + 1
  | .iface _ d => uptoBulk d + 1
  | .map entries => uptoBulkEntries entries + 1
  | .held _ => 1
def uptoBulkAll {H : Type} : List (DataW H) → Nat
  | [] => 0
  | d :: r => uptoBulk d + uptoBulkAll r
def uptoBulkEntries {H : Type} : List (Lit × DataW H) → Nat
  | [] => 0
  | x :: r => uptoBulkEntry x + uptoBulkEntries r
def uptoBulkEntry {H : Type} : Lit × DataW H → Nat
  | (.string bytes, d) => bytes.length + uptoBulk d + 1
  | (_, d) => uptoBulk d + 1
 end
def uptoSmall : (H : Type) → List (DataW H) → Bool := fun _ ds => decide (uptoBulkAll ds ≤ 1048576)
def OpenSpec.upto (s : _root_.Go.ChangeSpec) : _root_.Go.OpenSpec := { _root_.Go.OpenSpec.ofChange s with cond := some uptoSmall }

/-- 'priorylaw20.ChansApart', WHERE WHAT IT READS IS OF BULK AT MOST 1048576: true; the input reads as it did. -/
def chansApartUptoRow : OpenClaim := { program := "ytofkgceenppdbaa", sum := "e9c9d70518b944ae4756c1bd87548b443ff19867111cdabb2a5d2ad947bf6453", func := "priory/priorylaw20.ChansApart", spec := "chansApart", unfollowed := true, recurses := true, apart := false, narrowed := true }
def ChansApartUptoSaid : Prop := chansApartUptoRow.holds Try.pinned (OpenSpec.upto chansApartSpec)

/-- 'priorylaw20.ChansOrder', WHERE WHAT IT READS IS OF BULK AT MOST 1048576: true; the input reads as it did. -/
def chansOrderUptoRow : OpenClaim := { program := "ytofkgceenppdbaa", sum := "e9c9d70518b944ae4756c1bd87548b443ff19867111cdabb2a5d2ad947bf6453", func := "priory/priorylaw20.ChansOrder", spec := "chansOrder", unfollowed := true, recurses := true, apart := false, narrowed := true }
def ChansOrderUptoSaid : Prop := chansOrderUptoRow.holds Try.pinned (OpenSpec.upto chansOrderSpec)

/-- 'priorylaw20.ChansEnds', WHERE WHAT IT READS IS OF BULK AT MOST 1048576: true; the input reads as it did. -/
def chansEndsUptoRow : OpenClaim := { program := "ytofkgceenppdbaa", sum := "e9c9d70518b944ae4756c1bd87548b443ff19867111cdabb2a5d2ad947bf6453", func := "priory/priorylaw20.ChansEnds", spec := "chansEnds", unfollowed := true, recurses := true, apart := false, narrowed := true }
def ChansEndsUptoSaid : Prop := chansEndsUptoRow.holds Try.pinned (OpenSpec.upto chansEndsSpec)

/-- 'priorylaw20.ChansPlays', WHERE WHAT IT READS IS OF BULK AT MOST 1048576: true; the input reads as it did. -/
def chansPlaysUptoRow : OpenClaim := { program := "ytofkgceenppdbaa", sum := "e9c9d70518b944ae4756c1bd87548b443ff19867111cdabb2a5d2ad947bf6453", func := "priory/priorylaw20.ChansPlays", spec := "chansPlays", unfollowed := true, recurses := true, apart := false, narrowed := true }
def ChansPlaysUptoSaid : Prop := chansPlaysUptoRow.holds Try.pinned (OpenSpec.upto chansPlaysSpec)

/-- 'priorylaw20.ChansNone', WHERE WHAT IT READS IS OF BULK AT MOST 1048576: true; the input reads as it did. -/
def chansNoneUptoRow : OpenClaim := { program := "ytofkgceenppdbaa", sum := "e9c9d70518b944ae4756c1bd87548b443ff19867111cdabb2a5d2ad947bf6453", func := "priory/priorylaw20.ChansNone", spec := "chansNone", unfollowed := true, recurses := true, apart := false, narrowed := true }
def ChansNoneUptoSaid : Prop := chansNoneUptoRow.holds Try.pinned (OpenSpec.upto chansNoneSpec)

end Rows
end Go.Proofs.Ytofkgceenppdbaa
