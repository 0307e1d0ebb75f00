/- Helper text of this seat (EqK): contracts of functions of the given program and of its references, each told by its theorem. -/
import Derived.Test.YtbgpimdigkiflaaEqArr
import Derived.Test.YtbgpimdigkiflaaKp
namespace Go.Proofs.Ytbgpimdigkiflaa
open Go.RowKit
set_option linter.unusedVariables false
set_option linter.unusedSimpArgs false
theorem ints_kc (f : Nat → Int) (b : Bool) : (kc f b).extract 0 72 = (((List.range 72).map f).map (Value.int .u32)).toArray := by
  apply Array.toList_inj.1
  simp [kc, List.extract_eq_take_drop]
theorem part_words (f : Nat → Int) (b : Bool) (w : World) : (part 35 (kc f b) 0).run Try.prog w = .ok (.agg (((List.range 72).map f).map (Value.int .u32)).toArray) w := by
  have h1 : (isAgg 35).run Try.prog w = .ok true w := by kernel_rfl
  have h2 : (sizeOf 35).run Try.prog w = .ok 72 w := by kernel_rfl
  simp only [part, Sem.run_bind, h1, h2, Result.andThen_ok, if_true, Sem.run_pure, Nat.zero_add, ints_kc]
theorem part_bad (f : Nat → Int) (b : Bool) (w : World) : (part 4 (kc f b) 72).run Try.prog w = .ok (.bool b) w := by
  have h1 : (isAgg 4).run Try.prog w = .ok false w := by kernel_rfl
  have h3 : (kc f b).size = 73 := by simp [kc]
  have h4 := kc_bad f b
  simp [part, h1, h4]
theorem eq_kept (f : Nat → Int) (b : Bool) (w : World) : (Op.equalIn 10000 37 (.agg (kc f b)) (.agg (kc f b))).run Try.prog w = .ok true w := by
  rw [run_equalIn_struct w 9999 37 _ _ (by kernel_rfl) (by kernel_rfl)]
  have ha := run_eq_ints (P := Try.prog) w 9997 35 34 .u32 ((List.range 72).map f) ((List.range 72).map f) (by simp [Try.underlying35]) (by kernel_rfl) Try.underlying34 rfl
  simp only [Program.fieldsOf, Try.underlying37, Op.eqFields, Sem.run_bind, Sem.run_ite, part_words, part_bad, Result.andThen_ok, ha]
  simp [part_words, part_bad, ha, go_sem]
theorem eql_kept (f : Nat → Int) (b : Bool) (w : World) : (binOp .eql 37 (.agg (kc f b)) (.agg (kc f b))).run Try.prog w = .ok (.bool true) w := by
  rw [run_eql_struct, eq_kept]
  rfl
theorem neq_kept (f : Nat → Int) (b : Bool) (w : World) : (binOp .neq 37 (.agg (kc f b)) (.agg (kc f b))).run Try.prog w = .ok (.bool false) w := by
  rw [run_neq_struct, eq_kept]
  rfl
end Go.Proofs.Ytbgpimdigkiflaa
