/-
  No cell of these rows narrows 'for every input' (looked for: loops, veiled, ifaces, maps, wideKeys, modest, calm, conditions, laid).
  DERIVED. THE GIVEN ROWS OF THIS SEAT. 5 by the template 'for every input the law returns true; each argument reads behind the call as it read before'; 0 by the template 'total and deterministic' (their statements: YtldfgeipgjmjcaaTotals.lean).
  GIVEN WITH THE SEED: the statements are not yours to turn. If you find one false, say at which input.
  Laid BY PROGRAM, IN A SANDBOX (cutbox-rows.mjs): the forced cells as the released guide's own fill.sh prints them over the translation f5ae4ab71d540860… (all of the seat's roots in one cut). By AI agents, Wed Nov 11 2026. No macro, syntax, notation, axiom, sorry.
-/
import Derived.Test.YtldfgeipgjmjcaaChecked
import GoSem.Claim
import GoSem.ClaimJoined
import GoSem.ClaimMapViews
import Derived.JoinedTies
import Derived.KernelRfl
namespace Go.Proofs.Ytldfgeipgjmjcaa
/- THE CELL 'sum', in the pinned program and in every row, IS THE sha256 OF THE DUMP (.gsa) THAT YtldfgeipgjmjcaaProg.lean LOADS. Nothing in Lean hashes anything: it is a label: what it is worth is what the hold of that sum in a sandbox is worth. -/
noncomputable def Try.pinned : Pinned := { name := "ytldfgeipgjmjcaa", sum := "f5ae4ab71d5408602a9c5b91b5f178abef2a0c8b1bfd7a87837c370124b0f1ca", checked := Try.checked }
namespace Rows
def none {H : Type} : Left H := { results := [], args := [] }

/-- 'priorylaw15.CowFork': WHATEVER THE INPUT: true; the input reads as it did. -/
def cowForkSpec : ChangeSpec := { name := "cowFork", fn := fun _ => fun
  | [d] => { results := [.lit (.bool true)], args := [d] }
  | _ => none }
def cowForkRow : OpenClaim := { program := "ytldfgeipgjmjcaa", sum := "f5ae4ab71d5408602a9c5b91b5f178abef2a0c8b1bfd7a87837c370124b0f1ca", func := "priory/priorylaw15.CowFork", spec := "cowFork", apart := false }
def CowForkSaid : Prop := cowForkRow.holds Try.pinned (OpenSpec.ofChange cowForkSpec)

/-- ITS FALSE NEIGHBOUR: 'it returns false'. Refute it at one input. -/
def cowForkWrong : ChangeSpec := { name := "cowFork", fn := fun _ => fun
  | [d] => { results := [.lit (.bool false)], args := [d] }
  | _ => none }
def CowForkWrongFalsely : Prop := cowForkRow.holds Try.pinned (OpenSpec.ofChange cowForkWrong)

/-- 'priorylaw15.CowWrite': WHATEVER THE INPUT: true; the input reads as it did. -/
def cowWriteSpec : ChangeSpec := { name := "cowWrite", fn := fun _ => fun
  | [d1, d2] => { results := [.lit (.bool true)], args := [d1, d2] }
  | _ => none }
def cowWriteRow : OpenClaim := { program := "ytldfgeipgjmjcaa", sum := "f5ae4ab71d5408602a9c5b91b5f178abef2a0c8b1bfd7a87837c370124b0f1ca", func := "priory/priorylaw15.CowWrite", spec := "cowWrite", apart := false }
def CowWriteSaid : Prop := cowWriteRow.holds Try.pinned (OpenSpec.ofChange cowWriteSpec)

/-- ITS FALSE NEIGHBOUR: 'it returns false'. Refute it at one input. -/
def cowWriteWrong : ChangeSpec := { name := "cowWrite", fn := fun _ => fun
  | [d1, d2] => { results := [.lit (.bool false)], args := [d1, d2] }
  | _ => none }
def CowWriteWrongFalsely : Prop := cowWriteRow.holds Try.pinned (OpenSpec.ofChange cowWriteWrong)

/-- 'priorylaw15.CowSet': WHATEVER THE INPUT: true; the input reads as it did. -/
def cowSetSpec : ChangeSpec := { name := "cowSet", fn := fun _ => fun
  | [d1, d2, d3] => { results := [.lit (.bool true)], args := [d1, d2, d3] }
  | _ => none }
def cowSetRow : OpenClaim := { program := "ytldfgeipgjmjcaa", sum := "f5ae4ab71d5408602a9c5b91b5f178abef2a0c8b1bfd7a87837c370124b0f1ca", func := "priory/priorylaw15.CowSet", spec := "cowSet", apart := false }
def CowSetSaid : Prop := cowSetRow.holds Try.pinned (OpenSpec.ofChange cowSetSpec)

/-- ITS FALSE NEIGHBOUR: 'it returns false'. Refute it at one input. -/
def cowSetWrong : ChangeSpec := { name := "cowSet", fn := fun _ => fun
  | [d1, d2, d3] => { results := [.lit (.bool false)], args := [d1, d2, d3] }
  | _ => none }
def CowSetWrongFalsely : Prop := cowSetRow.holds Try.pinned (OpenSpec.ofChange cowSetWrong)

/-- 'priorylaw15.CowNever': WHATEVER THE INPUT: true; the input reads as it did. -/
def cowNeverSpec : ChangeSpec := { name := "cowNever", fn := fun _ => fun
  | [d1, d2, d3] => { results := [.lit (.bool true)], args := [d1, d2, d3] }
  | _ => none }
def cowNeverRow : OpenClaim := { program := "ytldfgeipgjmjcaa", sum := "f5ae4ab71d5408602a9c5b91b5f178abef2a0c8b1bfd7a87837c370124b0f1ca", func := "priory/priorylaw15.CowNever", spec := "cowNever", apart := false }
def CowNeverSaid : Prop := cowNeverRow.holds Try.pinned (OpenSpec.ofChange cowNeverSpec)

/-- ITS FALSE NEIGHBOUR: 'it returns false'. Refute it at one input. -/
def cowNeverWrong : ChangeSpec := { name := "cowNever", fn := fun _ => fun
  | [d1, d2, d3] => { results := [.lit (.bool false)], args := [d1, d2, d3] }
  | _ => none }
def CowNeverWrongFalsely : Prop := cowNeverRow.holds Try.pinned (OpenSpec.ofChange cowNeverWrong)

/-- 'priorylaw15.CowRound': WHATEVER THE INPUT: true; the input reads as it did. -/
def cowRoundSpec : ChangeSpec := { name := "cowRound", fn := fun _ => fun
  | [d1, d2] => { results := [.lit (.bool true)], args := [d1, d2] }
  | _ => none }
def cowRoundRow : OpenClaim := { program := "ytldfgeipgjmjcaa", sum := "f5ae4ab71d5408602a9c5b91b5f178abef2a0c8b1bfd7a87837c370124b0f1ca", func := "priory/priorylaw15.CowRound", spec := "cowRound", apart := false }
def CowRoundSaid : Prop := cowRoundRow.holds Try.pinned (OpenSpec.ofChange cowRoundSpec)

/-- ITS FALSE NEIGHBOUR: 'it returns false'. Refute it at one input. -/
def cowRoundWrong : ChangeSpec := { name := "cowRound", fn := fun _ => fun
  | [d1, d2] => { results := [.lit (.bool false)], args := [d1, d2] }
  | _ => none }
def CowRoundWrongFalsely : Prop := cowRoundRow.holds Try.pinned (OpenSpec.ofChange cowRoundWrong)

/- THE SECOND FORM. 'bulk': how many values and letters a reading holds, each counted each time it is reached (what is shared counts as often as it is met; a slice's spare places count too). A statement '..UptoSaid' is the law's where the arguments, and the package variables that the reading takes, are together of bulk at most 1048576: NARROWER than '..Said'. Prove '..Said' where nothing that the law and all that it calls make is longer than what came in: it says more and counts as full. Else prove '..UptoSaid'. A law counts once. -/
mutual
def uptoBulk {H : Type} : DataW H → Nat
  | .lit (.string bytes) => bytes.length + 1
  | .lit _ => 1
  | .nil => 1
  | .ptr d => uptoBulk d + 1
  | .slice elems spare => uptoBulkAll elems + uptoBulkAll spare + 1
  | .agg parts => uptoBulkAll parts + 1
  | .iface _ d => uptoBulk d + 1
  | .map entries => uptoBulkEntries entries + 1
  | .held _ => 1
def uptoBulkAll {H : Type} : List (DataW H) → Nat
  | [] => 0
  | d :: r => uptoBulk d + uptoBulkAll r
def uptoBulkEntries {H : Type} : List (Lit × DataW H) → Nat
  | [] => 0
  | x :: r => uptoBulkEntry x + uptoBulkEntries r
def uptoBulkEntry {H : Type} : Lit × DataW H → Nat
  | (.string bytes, d) => bytes.length + uptoBulk d + 1
  | (_, d) => uptoBulk d + 1
 end
def uptoSmall : (H : Type) → List (DataW H) → Bool := fun _ ds => decide (uptoBulkAll ds ≤ 1048576)
def OpenSpec.upto (s : _root_.Go.ChangeSpec) : _root_.Go.OpenSpec := { _root_.Go.OpenSpec.ofChange s with cond := some uptoSmall }

/-- 'priorylaw15.CowFork', WHERE WHAT IT READS IS OF BULK AT MOST 1048576: true; the input reads as it did. -/
def cowForkUptoRow : OpenClaim := { program := "ytldfgeipgjmjcaa", sum := "f5ae4ab71d5408602a9c5b91b5f178abef2a0c8b1bfd7a87837c370124b0f1ca", func := "priory/priorylaw15.CowFork", spec := "cowFork", apart := false, narrowed := true }
def CowForkUptoSaid : Prop := cowForkUptoRow.holds Try.pinned (OpenSpec.upto cowForkSpec)

/-- 'priorylaw15.CowWrite', WHERE WHAT IT READS IS OF BULK AT MOST 1048576: true; the input reads as it did. -/
def cowWriteUptoRow : OpenClaim := { program := "ytldfgeipgjmjcaa", sum := "f5ae4ab71d5408602a9c5b91b5f178abef2a0c8b1bfd7a87837c370124b0f1ca", func := "priory/priorylaw15.CowWrite", spec := "cowWrite", apart := false, narrowed := true }
def CowWriteUptoSaid : Prop := cowWriteUptoRow.holds Try.pinned (OpenSpec.upto cowWriteSpec)

/-- 'priorylaw15.CowSet', WHERE WHAT IT READS IS OF BULK AT MOST 1048576: true; the input reads as it did. -/
def cowSetUptoRow : OpenClaim := { program := "ytldfgeipgjmjcaa", sum := "f5ae4ab71d5408602a9c5b91b5f178abef2a0c8b1bfd7a87837c370124b0f1ca", func := "priory/priorylaw15.CowSet", spec := "cowSet", apart := false, narrowed := true }
def CowSetUptoSaid : Prop := cowSetUptoRow.holds Try.pinned (OpenSpec.upto cowSetSpec)

/-- 'priorylaw15.CowNever', WHERE WHAT IT READS IS OF BULK AT MOST 1048576: true; the input reads as it did. -/
def cowNeverUptoRow : OpenClaim := { program := "ytldfgeipgjmjcaa", sum := "f5ae4ab71d5408602a9c5b91b5f178abef2a0c8b1bfd7a87837c370124b0f1ca", func := "priory/priorylaw15.CowNever", spec := "cowNever", apart := false, narrowed := true }
def CowNeverUptoSaid : Prop := cowNeverUptoRow.holds Try.pinned (OpenSpec.upto cowNeverSpec)

/-- 'priorylaw15.CowRound', WHERE WHAT IT READS IS OF BULK AT MOST 1048576: true; the input reads as it did. -/
def cowRoundUptoRow : OpenClaim := { program := "ytldfgeipgjmjcaa", sum := "f5ae4ab71d5408602a9c5b91b5f178abef2a0c8b1bfd7a87837c370124b0f1ca", func := "priory/priorylaw15.CowRound", spec := "cowRound", apart := false, narrowed := true }
def CowRoundUptoSaid : Prop := cowRoundUptoRow.holds Try.pinned (OpenSpec.upto cowRoundSpec)

end Rows
end Go.Proofs.Ytldfgeipgjmjcaa
