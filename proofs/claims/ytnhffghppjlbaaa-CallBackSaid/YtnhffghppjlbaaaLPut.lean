/- Helper text of this seat (LPut): contracts of functions of the given program and of its references, each told by its theorem. -/
import Derived.Test.YtnhffghppjlbaaaPutAny
namespace Go.Proofs.Ytnhffghppjlbaaa
open Go.RowKit
set_option linter.unusedVariables false
set_option linter.unusedSimpArgs false
theorem put_r (n A B C : Int) (W : Bool) (w : World) (hC : 0 ≤ C ∧ C < 4294967296) (R : Nat → Int) (E : Int) (hR : putR n A B C W = R) (hE : putE n A B C W = E) :
    Calls Try.prog 13 #[.agg #[.int .i64 n, .int .i64 A, .int .i64 B, .int .u32 C, .bool W]] w fun e w' => e = .returned (.tuple #[.agg #[.int .u32 (R 0), .int .u32 (R 1), .int .u32 (R 2), .int .u32 (R 3), .int .u32 (R 4), .int .u32 (R 5), .int .u32 (R 6), .int .u32 (R 7)], .int .i64 E]) ∧ Below w.heap.size w w' := by
  subst hR hE
  exact put_any n A B C W w hC
theorem rput_r (n A B C : Int) (W : Bool) (w : World) (hC : 0 ≤ C ∧ C < 4294967296) (R : Nat → Int) (E : Int) (hR : putR n A B C W = R) (hE : putE n A B C W = E) :
    Calls Try.prog 14 #[.agg #[.int .i64 n, .int .i64 A, .int .i64 B, .int .u32 C, .bool W]] w fun e w' => e = .returned (.tuple #[.agg #[.int .u32 (R 0), .int .u32 (R 1), .int .u32 (R 2), .int .u32 (R 3), .int .u32 (R 4), .int .u32 (R 5), .int .u32 (R 6), .int .u32 (R 7)], .int .i64 E]) ∧ Below w.heap.size w w' := by
  subst hR hE
  exact rput_any n A B C W w hC
set_option maxHeartbeats 2000000 in
theorem CallPut_any (n A B C : Int) (W : Bool) (w : World) (hC : 0 ≤ C ∧ C < 4294967296) :
    Calls Try.prog 6 #[.agg #[.int .i64 n, .int .i64 A, .int .i64 B, .int .u32 C, .bool W]] w fun e' w' => e' = .returned (.bool true) ∧ Below w.heap.size w w' := by
  have heq := eq_words
  obtain ⟨R, hR⟩ : ∃ R, putR n A B C W = R := ⟨_, rfl⟩
  obtain ⟨E, hE⟩ : ∃ E, putE n A B C W = E := ⟨_, rfl⟩
  have h1 := fun w => put_r n A B C W w hC R E hR hE
  have h2 := fun w => rput_r n A B C W w hC R E hR hE
  have H1 := Lib.hid h1
  have H2 := Lib.hid h2
  clear h1 h2 hR hE hC
  go_enter Try.func6, Try.ntmps6
  go_wp2_with fail
  refine (H1.out _).mono ?_
  rintro e w1 ⟨rfl, hb⟩
  have c0_0 : w1.cell? ⟨w.heap.size, 0, none⟩ = some (.int .i64 n) := (hb.cell (by first | assumption | (simp; done) | (simp; omega) | omega)).trans (by simp [go_sem, *])
  have f0_0 : w1.frozen? ⟨w.heap.size, 0, none⟩ = false := (hb.frozen (by first | assumption | (simp; done) | (simp; omega) | omega)).trans (by simp [go_sem, *])
  have c0_1 : w1.cell? ⟨w.heap.size, 1, none⟩ = some (.int .i64 A) := (hb.cell (by first | assumption | (simp; done) | (simp; omega) | omega)).trans (by simp [go_sem, *])
  have f0_1 : w1.frozen? ⟨w.heap.size, 1, none⟩ = false := (hb.frozen (by first | assumption | (simp; done) | (simp; omega) | omega)).trans (by simp [go_sem, *])
  have c0_2 : w1.cell? ⟨w.heap.size, 2, none⟩ = some (.int .i64 B) := (hb.cell (by first | assumption | (simp; done) | (simp; omega) | omega)).trans (by simp [go_sem, *])
  have f0_2 : w1.frozen? ⟨w.heap.size, 2, none⟩ = false := (hb.frozen (by first | assumption | (simp; done) | (simp; omega) | omega)).trans (by simp [go_sem, *])
  have c0_3 : w1.cell? ⟨w.heap.size, 3, none⟩ = some (.int .u32 C) := (hb.cell (by first | assumption | (simp; done) | (simp; omega) | omega)).trans (by simp [go_sem, *])
  have f0_3 : w1.frozen? ⟨w.heap.size, 3, none⟩ = false := (hb.frozen (by first | assumption | (simp; done) | (simp; omega) | omega)).trans (by simp [go_sem, *])
  have c0_4 : w1.cell? ⟨w.heap.size, 4, none⟩ = some (.bool W) := (hb.cell (by first | assumption | (simp; done) | (simp; omega) | omega)).trans (by simp [go_sem, *])
  have f0_4 : w1.frozen? ⟨w.heap.size, 4, none⟩ = false := (hb.frozen (by first | assumption | (simp; done) | (simp; omega) | omega)).trans (by simp [go_sem, *])
  have z0 : w.heap.size < w1.heap.size := Nat.lt_of_lt_of_le (by first | assumption | (simp; done) | (simp; omega) | omega) hb.size
  have hB_w1 : Below w.heap.size w w1 := bstep (by go_grown) hb
  have hs_w1 : w.heap.size ≤ w1.heap.size := hB_w1.size
  clear hb
  go_wp2_with fail
  refine (H2.out _).mono ?_
  rintro e w2 ⟨rfl, hb⟩
  have c0_0 : w2.cell? ⟨w.heap.size, 0, none⟩ = some (.int .i64 n) := (hb.cell (by first | assumption | (simp; done) | (simp; omega) | omega)).trans (by simp [go_sem, *])
  have f0_0 : w2.frozen? ⟨w.heap.size, 0, none⟩ = false := (hb.frozen (by first | assumption | (simp; done) | (simp; omega) | omega)).trans (by simp [go_sem, *])
  have c0_1 : w2.cell? ⟨w.heap.size, 1, none⟩ = some (.int .i64 A) := (hb.cell (by first | assumption | (simp; done) | (simp; omega) | omega)).trans (by simp [go_sem, *])
  have f0_1 : w2.frozen? ⟨w.heap.size, 1, none⟩ = false := (hb.frozen (by first | assumption | (simp; done) | (simp; omega) | omega)).trans (by simp [go_sem, *])
  have c0_2 : w2.cell? ⟨w.heap.size, 2, none⟩ = some (.int .i64 B) := (hb.cell (by first | assumption | (simp; done) | (simp; omega) | omega)).trans (by simp [go_sem, *])
  have f0_2 : w2.frozen? ⟨w.heap.size, 2, none⟩ = false := (hb.frozen (by first | assumption | (simp; done) | (simp; omega) | omega)).trans (by simp [go_sem, *])
  have c0_3 : w2.cell? ⟨w.heap.size, 3, none⟩ = some (.int .u32 C) := (hb.cell (by first | assumption | (simp; done) | (simp; omega) | omega)).trans (by simp [go_sem, *])
  have f0_3 : w2.frozen? ⟨w.heap.size, 3, none⟩ = false := (hb.frozen (by first | assumption | (simp; done) | (simp; omega) | omega)).trans (by simp [go_sem, *])
  have c0_4 : w2.cell? ⟨w.heap.size, 4, none⟩ = some (.bool W) := (hb.cell (by first | assumption | (simp; done) | (simp; omega) | omega)).trans (by simp [go_sem, *])
  have f0_4 : w2.frozen? ⟨w.heap.size, 4, none⟩ = false := (hb.frozen (by first | assumption | (simp; done) | (simp; omega) | omega)).trans (by simp [go_sem, *])
  have z0 : w.heap.size < w2.heap.size := Nat.lt_of_lt_of_le (by first | assumption | (simp; done) | (simp; omega) | omega) hb.size
  have c1_0 : w2.cell? ⟨w1.heap.size, 0, none⟩ = some (.int .u32 (R 0)) := (hb.cell (by first | assumption | (simp; done) | (simp; omega) | omega)).trans (by simp [go_sem, *])
  have f1_0 : w2.frozen? ⟨w1.heap.size, 0, none⟩ = false := (hb.frozen (by first | assumption | (simp; done) | (simp; omega) | omega)).trans (by simp [go_sem, *])
  have c1_1 : w2.cell? ⟨w1.heap.size, 1, none⟩ = some (.int .u32 (R 1)) := (hb.cell (by first | assumption | (simp; done) | (simp; omega) | omega)).trans (by simp [go_sem, *])
  have f1_1 : w2.frozen? ⟨w1.heap.size, 1, none⟩ = false := (hb.frozen (by first | assumption | (simp; done) | (simp; omega) | omega)).trans (by simp [go_sem, *])
  have c1_2 : w2.cell? ⟨w1.heap.size, 2, none⟩ = some (.int .u32 (R 2)) := (hb.cell (by first | assumption | (simp; done) | (simp; omega) | omega)).trans (by simp [go_sem, *])
  have f1_2 : w2.frozen? ⟨w1.heap.size, 2, none⟩ = false := (hb.frozen (by first | assumption | (simp; done) | (simp; omega) | omega)).trans (by simp [go_sem, *])
  have c1_3 : w2.cell? ⟨w1.heap.size, 3, none⟩ = some (.int .u32 (R 3)) := (hb.cell (by first | assumption | (simp; done) | (simp; omega) | omega)).trans (by simp [go_sem, *])
  have f1_3 : w2.frozen? ⟨w1.heap.size, 3, none⟩ = false := (hb.frozen (by first | assumption | (simp; done) | (simp; omega) | omega)).trans (by simp [go_sem, *])
  have c1_4 : w2.cell? ⟨w1.heap.size, 4, none⟩ = some (.int .u32 (R 4)) := (hb.cell (by first | assumption | (simp; done) | (simp; omega) | omega)).trans (by simp [go_sem, *])
  have f1_4 : w2.frozen? ⟨w1.heap.size, 4, none⟩ = false := (hb.frozen (by first | assumption | (simp; done) | (simp; omega) | omega)).trans (by simp [go_sem, *])
  have c1_5 : w2.cell? ⟨w1.heap.size, 5, none⟩ = some (.int .u32 (R 5)) := (hb.cell (by first | assumption | (simp; done) | (simp; omega) | omega)).trans (by simp [go_sem, *])
  have f1_5 : w2.frozen? ⟨w1.heap.size, 5, none⟩ = false := (hb.frozen (by first | assumption | (simp; done) | (simp; omega) | omega)).trans (by simp [go_sem, *])
  have c1_6 : w2.cell? ⟨w1.heap.size, 6, none⟩ = some (.int .u32 (R 6)) := (hb.cell (by first | assumption | (simp; done) | (simp; omega) | omega)).trans (by simp [go_sem, *])
  have f1_6 : w2.frozen? ⟨w1.heap.size, 6, none⟩ = false := (hb.frozen (by first | assumption | (simp; done) | (simp; omega) | omega)).trans (by simp [go_sem, *])
  have c1_7 : w2.cell? ⟨w1.heap.size, 7, none⟩ = some (.int .u32 (R 7)) := (hb.cell (by first | assumption | (simp; done) | (simp; omega) | omega)).trans (by simp [go_sem, *])
  have f1_7 : w2.frozen? ⟨w1.heap.size, 7, none⟩ = false := (hb.frozen (by first | assumption | (simp; done) | (simp; omega) | omega)).trans (by simp [go_sem, *])
  have z1 : w1.heap.size < w2.heap.size := Nat.lt_of_lt_of_le (by first | assumption | (simp; done) | (simp; omega) | omega) hb.size
  have hB_w2 : Below w.heap.size w w2 := bstep (by go_grown) hb
  have hs_w2 : w.heap.size ≤ w2.heap.size := hB_w2.size
  clear hb
  go_wp2_with fail
  refine (awake_any _).mono ?_
  rintro e3 w3 ⟨rfl, hb3⟩
  go_wp2
  go_returns
  exact ⟨by simp, bstep (by go_grown) hb3⟩
end Go.Proofs.Ytnhffghppjlbaaa
