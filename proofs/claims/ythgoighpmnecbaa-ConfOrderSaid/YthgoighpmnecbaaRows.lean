/-
  No cell of these rows narrows 'for every input' (looked for: loops, veiled, ifaces, maps, wideKeys, modest, calm, conditions, laid).
  DERIVED. THE GIVEN ROWS OF THIS SEAT. 6 by the template 'for every input the law returns true; each argument reads behind the call as it read before'; 0 by the template 'total and deterministic' (their statements: YthgoighpmnecbaaTotals.lean).
  GIVEN WITH THE SEED: the statements are not yours to turn. If you find one false, say at which input.
  Laid BY PROGRAM, IN A SANDBOX (cutbox-rows.mjs): the forced cells as the released guide's own fill.sh prints them over the translation 210e6705d4d7b6c9… (all of the seat's roots in one cut). By AI agents, Wed Nov 11 2026. No macro, syntax, notation, axiom, sorry.
-/
import Derived.Test.YthgoighpmnecbaaChecked
import GoSem.Claim
import GoSem.ClaimJoined
import GoSem.ClaimMapViews
import Derived.JoinedTies
import Derived.KernelRfl
namespace Go.Proofs.Ythgoighpmnecbaa
/- THE CELL 'sum', in the pinned program and in every row, IS THE sha256 OF THE DUMP (.gsa) THAT YthgoighpmnecbaaProg.lean LOADS. Nothing in Lean hashes anything: it is a label: what it is worth is what the hold of that sum in a sandbox is worth. -/
noncomputable def Try.pinned : Pinned := { name := "ythgoighpmnecbaa", sum := "210e6705d4d7b6c99644318ba62f335deab84a01cd6ccca7474d69090be60e27", checked := Try.checked }
namespace Rows
def none {H : Type} : Left H := { results := [], args := [] }

/-- 'priorylaw06.ConfPut': WHATEVER THE INPUT: true; the input reads as it did. -/
def confPutSpec : ChangeSpec := { name := "confPut", fn := fun _ => fun
  | [d1, d2] => { results := [.lit (.bool true)], args := [d1, d2] }
  | _ => none }
def confPutRow : OpenClaim := { program := "ythgoighpmnecbaa", sum := "210e6705d4d7b6c99644318ba62f335deab84a01cd6ccca7474d69090be60e27", func := "priory/priorylaw06.ConfPut", spec := "confPut", inPlace := ["internal/abi.NoEscape"], unfollowed := true, recurses := true, apart := false }
def ConfPutSaid : Prop := confPutRow.holds Try.pinned (OpenSpec.ofChange confPutSpec)

/-- ITS FALSE NEIGHBOUR: 'it returns false'. Refute it at one input. -/
def confPutWrong : ChangeSpec := { name := "confPut", fn := fun _ => fun
  | [d1, d2] => { results := [.lit (.bool false)], args := [d1, d2] }
  | _ => none }
def ConfPutWrongFalsely : Prop := confPutRow.holds Try.pinned (OpenSpec.ofChange confPutWrong)

/-- 'priorylaw06.ConfGet': WHATEVER THE INPUT: true; the input reads as it did. -/
def confGetSpec : ChangeSpec := { name := "confGet", fn := fun _ => fun
  | [d] => { results := [.lit (.bool true)], args := [d] }
  | _ => none }
def confGetRow : OpenClaim := { program := "ythgoighpmnecbaa", sum := "210e6705d4d7b6c99644318ba62f335deab84a01cd6ccca7474d69090be60e27", func := "priory/priorylaw06.ConfGet", spec := "confGet", inPlace := ["internal/abi.NoEscape"], unfollowed := true, recurses := true, apart := false }
def ConfGetSaid : Prop := confGetRow.holds Try.pinned (OpenSpec.ofChange confGetSpec)

/-- ITS FALSE NEIGHBOUR: 'it returns false'. Refute it at one input. -/
def confGetWrong : ChangeSpec := { name := "confGet", fn := fun _ => fun
  | [d] => { results := [.lit (.bool false)], args := [d] }
  | _ => none }
def ConfGetWrongFalsely : Prop := confGetRow.holds Try.pinned (OpenSpec.ofChange confGetWrong)

/-- 'priorylaw06.ConfBack': WHATEVER THE INPUT: true; the input reads as it did. -/
def confBackSpec : ChangeSpec := { name := "confBack", fn := fun _ => fun
  | [d1, d2, d3] => { results := [.lit (.bool true)], args := [d1, d2, d3] }
  | _ => none }
def confBackRow : OpenClaim := { program := "ythgoighpmnecbaa", sum := "210e6705d4d7b6c99644318ba62f335deab84a01cd6ccca7474d69090be60e27", func := "priory/priorylaw06.ConfBack", spec := "confBack", inPlace := ["internal/abi.NoEscape"], unfollowed := true, recurses := true, apart := false }
def ConfBackSaid : Prop := confBackRow.holds Try.pinned (OpenSpec.ofChange confBackSpec)

/-- ITS FALSE NEIGHBOUR: 'it returns false'. Refute it at one input. -/
def confBackWrong : ChangeSpec := { name := "confBack", fn := fun _ => fun
  | [d1, d2, d3] => { results := [.lit (.bool false)], args := [d1, d2, d3] }
  | _ => none }
def ConfBackWrongFalsely : Prop := confBackRow.holds Try.pinned (OpenSpec.ofChange confBackWrong)

/-- 'priorylaw06.ConfCut': WHATEVER THE INPUT: true; the input reads as it did. -/
def confCutSpec : ChangeSpec := { name := "confCut", fn := fun _ => fun
  | [d1, d2, d3] => { results := [.lit (.bool true)], args := [d1, d2, d3] }
  | _ => none }
def confCutRow : OpenClaim := { program := "ythgoighpmnecbaa", sum := "210e6705d4d7b6c99644318ba62f335deab84a01cd6ccca7474d69090be60e27", func := "priory/priorylaw06.ConfCut", spec := "confCut", inPlace := ["internal/abi.NoEscape"], unfollowed := true, recurses := true, apart := false }
def ConfCutSaid : Prop := confCutRow.holds Try.pinned (OpenSpec.ofChange confCutSpec)

/-- ITS FALSE NEIGHBOUR: 'it returns false'. Refute it at one input. -/
def confCutWrong : ChangeSpec := { name := "confCut", fn := fun _ => fun
  | [d1, d2, d3] => { results := [.lit (.bool false)], args := [d1, d2, d3] }
  | _ => none }
def ConfCutWrongFalsely : Prop := confCutRow.holds Try.pinned (OpenSpec.ofChange confCutWrong)

/-- 'priorylaw06.ConfGrows': WHATEVER THE INPUT: true; the input reads as it did. -/
def confGrowsSpec : ChangeSpec := { name := "confGrows", fn := fun _ => fun
  | [d1, d2] => { results := [.lit (.bool true)], args := [d1, d2] }
  | _ => none }
def confGrowsRow : OpenClaim := { program := "ythgoighpmnecbaa", sum := "210e6705d4d7b6c99644318ba62f335deab84a01cd6ccca7474d69090be60e27", func := "priory/priorylaw06.ConfGrows", spec := "confGrows", inPlace := ["internal/abi.NoEscape"], unfollowed := true, recurses := true, apart := false }
def ConfGrowsSaid : Prop := confGrowsRow.holds Try.pinned (OpenSpec.ofChange confGrowsSpec)

/-- ITS FALSE NEIGHBOUR: 'it returns false'. Refute it at one input. -/
def confGrowsWrong : ChangeSpec := { name := "confGrows", fn := fun _ => fun
  | [d1, d2] => { results := [.lit (.bool false)], args := [d1, d2] }
  | _ => none }
def ConfGrowsWrongFalsely : Prop := confGrowsRow.holds Try.pinned (OpenSpec.ofChange confGrowsWrong)

/-- 'priorylaw06.ConfOrder': WHATEVER THE INPUT: true; the input reads as it did. -/
def confOrderSpec : ChangeSpec := { name := "confOrder", fn := fun _ => fun
  | [d] => { results := [.lit (.bool true)], args := [d] }
  | _ => none }
def confOrderRow : OpenClaim := { program := "ythgoighpmnecbaa", sum := "210e6705d4d7b6c99644318ba62f335deab84a01cd6ccca7474d69090be60e27", func := "priory/priorylaw06.ConfOrder", spec := "confOrder", inPlace := ["internal/abi.NoEscape"], unfollowed := true, recurses := true, apart := false }
def ConfOrderSaid : Prop := confOrderRow.holds Try.pinned (OpenSpec.ofChange confOrderSpec)

/-- ITS FALSE NEIGHBOUR: 'it returns false'. Refute it at one input. -/
def confOrderWrong : ChangeSpec := { name := "confOrder", fn := fun _ => fun
  | [d] => { results := [.lit (.bool false)], args := [d] }
  | _ => none }
def ConfOrderWrongFalsely : Prop := confOrderRow.holds Try.pinned (OpenSpec.ofChange confOrderWrong)

/- THE SECOND FORM. 'bulk': how many values and letters a reading holds, each counted each time it is reached (what is shared counts as often as it is met; a slice's spare places count too). A statement '..UptoSaid' is the law's where the arguments, and the package variables that the reading takes, are together of bulk at most 1048576: NARROWER than '..Said'. Prove '..Said' where nothing that the law and all that it calls make is longer than what came in: it says more and counts as full. Else prove '..UptoSaid'. A law counts once. -/
mutual
def uptoBulk {H : Type} : DataW H → Nat
  | .lit (.string bytes) => bytes.length + 1
  | .lit _ => 1
  | .nil => 1
  | .ptr d => uptoBulk d + 1
  | .slice elems spare => uptoBulkAll elems + uptoBulkAll spare + 1
  | .agg parts => uptoBulkAll parts + 1
  | .iface _ d => uptoBulk d + 1
  | .map entries => uptoBulkEntries entries + 1
  | .held _ => 1
def uptoBulkAll {H : Type} : List (DataW H) → Nat
  | [] => 0
  | d :: r => uptoBulk d + uptoBulkAll r
def uptoBulkEntries {H : Type} : List (Lit × DataW H) → Nat
  | [] => 0
  | x :: r => uptoBulkEntry x + uptoBulkEntries r
def uptoBulkEntry {H : Type} : Lit × DataW H → Nat
  | (.string bytes, d) => bytes.length + uptoBulk d + 1
  | (_, d) => uptoBulk d + 1
 end
def uptoSmall : (H : Type) → List (DataW H) → Bool := fun _ ds => decide (uptoBulkAll ds ≤ 1048576)
def OpenSpec.upto (s : _root_.Go.ChangeSpec) : _root_.Go.OpenSpec := { _root_.Go.OpenSpec.ofChange s with cond := some uptoSmall }

/-- 'priorylaw06.ConfPut', WHERE WHAT IT READS IS OF BULK AT MOST 1048576: true; the input reads as it did. -/
def confPutUptoRow : OpenClaim := { program := "ythgoighpmnecbaa", sum := "210e6705d4d7b6c99644318ba62f335deab84a01cd6ccca7474d69090be60e27", func := "priory/priorylaw06.ConfPut", spec := "confPut", inPlace := ["internal/abi.NoEscape"], unfollowed := true, recurses := true, apart := false, narrowed := true }
def ConfPutUptoSaid : Prop := confPutUptoRow.holds Try.pinned (OpenSpec.upto confPutSpec)

/-- 'priorylaw06.ConfGet', WHERE WHAT IT READS IS OF BULK AT MOST 1048576: true; the input reads as it did. -/
def confGetUptoRow : OpenClaim := { program := "ythgoighpmnecbaa", sum := "210e6705d4d7b6c99644318ba62f335deab84a01cd6ccca7474d69090be60e27", func := "priory/priorylaw06.ConfGet", spec := "confGet", inPlace := ["internal/abi.NoEscape"], unfollowed := true, recurses := true, apart := false, narrowed := true }
def ConfGetUptoSaid : Prop := confGetUptoRow.holds Try.pinned (OpenSpec.upto confGetSpec)

/-- 'priorylaw06.ConfBack', WHERE WHAT IT READS IS OF BULK AT MOST 1048576: true; the input reads as it did. -/
def confBackUptoRow : OpenClaim := { program := "ythgoighpmnecbaa", sum := "210e6705d4d7b6c99644318ba62f335deab84a01cd6ccca7474d69090be60e27", func := "priory/priorylaw06.ConfBack", spec := "confBack", inPlace := ["internal/abi.NoEscape"], unfollowed := true, recurses := true, apart := false, narrowed := true }
def ConfBackUptoSaid : Prop := confBackUptoRow.holds Try.pinned (OpenSpec.upto confBackSpec)

/-- 'priorylaw06.ConfCut', WHERE WHAT IT READS IS OF BULK AT MOST 1048576: true; the input reads as it did. -/
def confCutUptoRow : OpenClaim := { program := "ythgoighpmnecbaa", sum := "210e6705d4d7b6c99644318ba62f335deab84a01cd6ccca7474d69090be60e27", func := "priory/priorylaw06.ConfCut", spec := "confCut", inPlace := ["internal/abi.NoEscape"], unfollowed := true, recurses := true, apart := false, narrowed := true }
def ConfCutUptoSaid : Prop := confCutUptoRow.holds Try.pinned (OpenSpec.upto confCutSpec)

/-- 'priorylaw06.ConfGrows', WHERE WHAT IT READS IS OF BULK AT MOST 1048576: true; the input reads as it did. -/
def confGrowsUptoRow : OpenClaim := { program := "ythgoighpmnecbaa", sum := "210e6705d4d7b6c99644318ba62f335deab84a01cd6ccca7474d69090be60e27", func := "priory/priorylaw06.ConfGrows", spec := "confGrows", inPlace := ["internal/abi.NoEscape"], unfollowed := true, recurses := true, apart := false, narrowed := true }
def ConfGrowsUptoSaid : Prop := confGrowsUptoRow.holds Try.pinned (OpenSpec.upto confGrowsSpec)

/-- 'priorylaw06.ConfOrder', WHERE WHAT IT READS IS OF BULK AT MOST 1048576: true; the input reads as it did. -/
def confOrderUptoRow : OpenClaim := { program := "ythgoighpmnecbaa", sum := "210e6705d4d7b6c99644318ba62f335deab84a01cd6ccca7474d69090be60e27", func := "priory/priorylaw06.ConfOrder", spec := "confOrder", inPlace := ["internal/abi.NoEscape"], unfollowed := true, recurses := true, apart := false, narrowed := true }
def ConfOrderUptoSaid : Prop := confOrderUptoRow.holds Try.pinned (OpenSpec.upto confOrderSpec)

end Rows
end Go.Proofs.Ythgoighpmnecbaa
