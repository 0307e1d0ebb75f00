/-
  No cell of these rows narrows 'for every input' (looked for: loops, veiled, ifaces, maps, wideKeys, modest, calm, conditions, laid).
  DERIVED. THE GIVEN ROWS OF THIS SEAT. 5 by the template 'for every input the law returns true; each argument reads behind the call as it read before'; 0 by the template 'total and deterministic' (their statements: YtnhffghppjlbaaaTotals.lean).
  GIVEN WITH THE SEED: the statements are not yours to turn. If you find one false, say at which input.
  Laid BY PROGRAM, IN A SANDBOX (cutbox-rows.mjs): the forced cells as the released guide's own fill.sh prints them over the translation 1437fbda778694d9… (all of the seat's roots in one cut). By AI agents, Wed Nov 11 2026. No macro, syntax, notation, axiom, sorry.
-/
import Derived.Test.YtnhffghppjlbaaaChecked
import GoSem.Claim
import GoSem.ClaimJoined
import GoSem.ClaimMapViews
import Derived.JoinedTies
import Derived.KernelRfl
namespace Go.Proofs.Ytnhffghppjlbaaa
/- THE CELL 'sum', in the pinned program and in every row, IS THE sha256 OF THE DUMP (.gsa) THAT YtnhffghppjlbaaaProg.lean LOADS. Nothing in Lean hashes anything: it is a label: what it is worth is what the hold of that sum in a sandbox is worth. -/
noncomputable def Try.pinned : Pinned := { name := "ytnhffghppjlbaaa", sum := "1437fbda778694d94b562f750ebaa5e4d960d28b7c2e2d411db5b7129dbc4296", checked := Try.checked }
namespace Rows
def none {H : Type} : Left H := { results := [], args := [] }

/-- 'priorylaw21.CallPlain': WHATEVER THE INPUT: true; the input reads as it did. -/
def callPlainSpec : ChangeSpec := { name := "callPlain", fn := fun _ => fun
  | [d] => { results := [.lit (.bool true)], args := [d] }
  | _ => none }
def callPlainRow : OpenClaim := { program := "ytnhffghppjlbaaa", sum := "1437fbda778694d94b562f750ebaa5e4d960d28b7c2e2d411db5b7129dbc4296", func := "priory/priorylaw21.CallPlain", spec := "callPlain", unfollowed := true, recurses := true, apart := false }
def CallPlainSaid : Prop := callPlainRow.holds Try.pinned (OpenSpec.ofChange callPlainSpec)

/-- ITS FALSE NEIGHBOUR: 'it returns false'. Refute it at one input. -/
def callPlainWrong : ChangeSpec := { name := "callPlain", fn := fun _ => fun
  | [d] => { results := [.lit (.bool false)], args := [d] }
  | _ => none }
def CallPlainWrongFalsely : Prop := callPlainRow.holds Try.pinned (OpenSpec.ofChange callPlainWrong)

/-- 'priorylaw21.CallRead': WHATEVER THE INPUT: true; the input reads as it did. -/
def callReadSpec : ChangeSpec := { name := "callRead", fn := fun _ => fun
  | [d1, d2, d3, d4] => { results := [.lit (.bool true)], args := [d1, d2, d3, d4] }
  | _ => none }
def callReadRow : OpenClaim := { program := "ytnhffghppjlbaaa", sum := "1437fbda778694d94b562f750ebaa5e4d960d28b7c2e2d411db5b7129dbc4296", func := "priory/priorylaw21.CallRead", spec := "callRead", unfollowed := true, recurses := true, apart := false }
def CallReadSaid : Prop := callReadRow.holds Try.pinned (OpenSpec.ofChange callReadSpec)

/-- ITS FALSE NEIGHBOUR: 'it returns false'. Refute it at one input. -/
def callReadWrong : ChangeSpec := { name := "callRead", fn := fun _ => fun
  | [d1, d2, d3, d4] => { results := [.lit (.bool false)], args := [d1, d2, d3, d4] }
  | _ => none }
def CallReadWrongFalsely : Prop := callReadRow.holds Try.pinned (OpenSpec.ofChange callReadWrong)

/-- 'priorylaw21.CallTold': WHATEVER THE INPUT: true; the input reads as it did. -/
def callToldSpec : ChangeSpec := { name := "callTold", fn := fun _ => fun
  | [d1, d2, d3, d4] => { results := [.lit (.bool true)], args := [d1, d2, d3, d4] }
  | _ => none }
def callToldRow : OpenClaim := { program := "ytnhffghppjlbaaa", sum := "1437fbda778694d94b562f750ebaa5e4d960d28b7c2e2d411db5b7129dbc4296", func := "priory/priorylaw21.CallTold", spec := "callTold", unfollowed := true, recurses := true, apart := false }
def CallToldSaid : Prop := callToldRow.holds Try.pinned (OpenSpec.ofChange callToldSpec)

/-- ITS FALSE NEIGHBOUR: 'it returns false'. Refute it at one input. -/
def callToldWrong : ChangeSpec := { name := "callTold", fn := fun _ => fun
  | [d1, d2, d3, d4] => { results := [.lit (.bool false)], args := [d1, d2, d3, d4] }
  | _ => none }
def CallToldWrongFalsely : Prop := callToldRow.holds Try.pinned (OpenSpec.ofChange callToldWrong)

/-- 'priorylaw21.CallPut': WHATEVER THE INPUT: true; the input reads as it did. -/
def callPutSpec : ChangeSpec := { name := "callPut", fn := fun _ => fun
  | [d] => { results := [.lit (.bool true)], args := [d] }
  | _ => none }
def callPutRow : OpenClaim := { program := "ytnhffghppjlbaaa", sum := "1437fbda778694d94b562f750ebaa5e4d960d28b7c2e2d411db5b7129dbc4296", func := "priory/priorylaw21.CallPut", spec := "callPut", unfollowed := true, recurses := true, apart := false }
def CallPutSaid : Prop := callPutRow.holds Try.pinned (OpenSpec.ofChange callPutSpec)

/-- ITS FALSE NEIGHBOUR: 'it returns false'. Refute it at one input. -/
def callPutWrong : ChangeSpec := { name := "callPut", fn := fun _ => fun
  | [d] => { results := [.lit (.bool false)], args := [d] }
  | _ => none }
def CallPutWrongFalsely : Prop := callPutRow.holds Try.pinned (OpenSpec.ofChange callPutWrong)

/-- 'priorylaw21.CallBack': WHATEVER THE INPUT: true; the input reads as it did. -/
def callBackSpec : ChangeSpec := { name := "callBack", fn := fun _ => fun
  | [d1, d2, d3, d4] => { results := [.lit (.bool true)], args := [d1, d2, d3, d4] }
  | _ => none }
def callBackRow : OpenClaim := { program := "ytnhffghppjlbaaa", sum := "1437fbda778694d94b562f750ebaa5e4d960d28b7c2e2d411db5b7129dbc4296", func := "priory/priorylaw21.CallBack", spec := "callBack", unfollowed := true, recurses := true, apart := false }
def CallBackSaid : Prop := callBackRow.holds Try.pinned (OpenSpec.ofChange callBackSpec)

/-- ITS FALSE NEIGHBOUR: 'it returns false'. Refute it at one input. -/
def callBackWrong : ChangeSpec := { name := "callBack", fn := fun _ => fun
  | [d1, d2, d3, d4] => { results := [.lit (.bool false)], args := [d1, d2, d3, d4] }
  | _ => none }
def CallBackWrongFalsely : Prop := callBackRow.holds Try.pinned (OpenSpec.ofChange callBackWrong)

/- THE SECOND FORM. 'bulk': how many values and letters a reading holds, each counted each time it is reached (what is shared counts as often as it is met; a slice's spare places count too). A statement '..UptoSaid' is the law's where the arguments, and the package variables that the reading takes, are together of bulk at most 1048576: NARROWER than '..Said'. Prove '..Said' where nothing that the law and all that it calls make is longer than what came in: it says more and counts as full. Else prove '..UptoSaid'. A law counts once. -/
mutual
def uptoBulk {H : Type} : DataW H → Nat
  | .lit (.string bytes) => bytes.length + 1
  | .lit _ => 1
  | .nil => 1
  | .ptr d => uptoBulk d + 1
  | .slice elems spare => uptoBulkAll elems + uptoBulkAll spare + 1
  | .agg parts => uptoBulkAll parts + 1
  | .iface _ d => uptoBulk d + 1
  | .map entries => uptoBulkEntries entries + 1
  | .held _ => 1
def uptoBulkAll {H : Type} : List (DataW H) → Nat
  | [] => 0
  | d :: r => uptoBulk d + uptoBulkAll r
def uptoBulkEntries {H : Type} : List (Lit × DataW H) → Nat
  | [] => 0
  | x :: r => uptoBulkEntry x + uptoBulkEntries r
def uptoBulkEntry {H : Type} : Lit × DataW H → Nat
  | (.string bytes, d) => bytes.length + uptoBulk d + 1
  | (_, d) => uptoBulk d + 1
 end
def uptoSmall : (H : Type) → List (DataW H) → Bool := fun _ ds => decide (uptoBulkAll ds ≤ 1048576)
def OpenSpec.upto (s : _root_.Go.ChangeSpec) : _root_.Go.OpenSpec := { _root_.Go.OpenSpec.ofChange s with cond := some uptoSmall }

/-- 'priorylaw21.CallPlain', WHERE WHAT IT READS IS OF BULK AT MOST 1048576: true; the input reads as it did. -/
def callPlainUptoRow : OpenClaim := { program := "ytnhffghppjlbaaa", sum := "1437fbda778694d94b562f750ebaa5e4d960d28b7c2e2d411db5b7129dbc4296", func := "priory/priorylaw21.CallPlain", spec := "callPlain", unfollowed := true, recurses := true, apart := false, narrowed := true }
def CallPlainUptoSaid : Prop := callPlainUptoRow.holds Try.pinned (OpenSpec.upto callPlainSpec)

/-- 'priorylaw21.CallRead', WHERE WHAT IT READS IS OF BULK AT MOST 1048576: true; the input reads as it did. -/
def callReadUptoRow : OpenClaim := { program := "ytnhffghppjlbaaa", sum := "1437fbda778694d94b562f750ebaa5e4d960d28b7c2e2d411db5b7129dbc4296", func := "priory/priorylaw21.CallRead", spec := "callRead", unfollowed := true, recurses := true, apart := false, narrowed := true }
def CallReadUptoSaid : Prop := callReadUptoRow.holds Try.pinned (OpenSpec.upto callReadSpec)

/-- 'priorylaw21.CallTold', WHERE WHAT IT READS IS OF BULK AT MOST 1048576: true; the input reads as it did. -/
def callToldUptoRow : OpenClaim := { program := "ytnhffghppjlbaaa", sum := "1437fbda778694d94b562f750ebaa5e4d960d28b7c2e2d411db5b7129dbc4296", func := "priory/priorylaw21.CallTold", spec := "callTold", unfollowed := true, recurses := true, apart := false, narrowed := true }
def CallToldUptoSaid : Prop := callToldUptoRow.holds Try.pinned (OpenSpec.upto callToldSpec)

/-- 'priorylaw21.CallPut', WHERE WHAT IT READS IS OF BULK AT MOST 1048576: true; the input reads as it did. -/
def callPutUptoRow : OpenClaim := { program := "ytnhffghppjlbaaa", sum := "1437fbda778694d94b562f750ebaa5e4d960d28b7c2e2d411db5b7129dbc4296", func := "priory/priorylaw21.CallPut", spec := "callPut", unfollowed := true, recurses := true, apart := false, narrowed := true }
def CallPutUptoSaid : Prop := callPutUptoRow.holds Try.pinned (OpenSpec.upto callPutSpec)

/-- 'priorylaw21.CallBack', WHERE WHAT IT READS IS OF BULK AT MOST 1048576: true; the input reads as it did. -/
def callBackUptoRow : OpenClaim := { program := "ytnhffghppjlbaaa", sum := "1437fbda778694d94b562f750ebaa5e4d960d28b7c2e2d411db5b7129dbc4296", func := "priory/priorylaw21.CallBack", spec := "callBack", unfollowed := true, recurses := true, apart := false, narrowed := true }
def CallBackUptoSaid : Prop := callBackUptoRow.holds Try.pinned (OpenSpec.upto callBackSpec)

end Rows
end Go.Proofs.Ytnhffghppjlbaaa
