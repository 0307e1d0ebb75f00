/- Helper text of this seat (NevB): contracts of functions of the given program and of its references, each told by its theorem. -/
import Derived.Test.YtldfgeipgjmjcaaFin
namespace Go.Proofs.Ytldfgeipgjmjcaa
open Go.RowKit
set_option linter.unusedVariables false
set_option linter.unusedSimpArgs false
set_option maxHeartbeats 2000000 in
theorem never_ff_one_t (n : Int) (w : World) (h1 : 0 ≤ n) (h2 : n < 1024) :
    Calls Try.prog 6 #[.agg #[.bool true, .bool false, .bool false, .int .i64 n], .int .i64 1, .bool true] w fun e w' => e = .returned (.bool true) ∧ Below w.heap.size w w' := by
  have e1 : fin true false false n 1 = true := fin_mk h1 h2 rfl (by omega)
  have e2 : fin true false false n 1 = true := fin_mk h1 h2 rfl (by omega)
  have e4 : fin true false false n 1 = true := fin_mk h1 h2 rfl (by omega)
  have g1 : wr true false false n 1 = 0 := by rw [wr_of e4]; simp
  have g2 : wrE true false false n 1 = 8 := by rw [wrE_of e4]; simp
  have n2 : ((false : Bool) || false) = false := rfl
  have e3 : fin true false false n 1 = true := fin_mk h1 h2 rfl (by omega)
  have e5 : fin true true false n 1 = true := fin_mk h1 h2 rfl (by omega)
  have g3 : wr true true false n 1 = 1 := by rw [wr_of e5]; simp
  have g4 : wrE true true false n 1 = 0 := by rw [wrE_of e5]; simp
  go_enter Try.func6, Try.ntmps6
  go_wp2_with fail
  refine (fork_yes _ _ _ _ _ e1).mono ?_
  rintro e w1 ⟨rfl, hb⟩
  have c0_0 : w1.cell? ⟨w.heap.size, 0, none⟩ = some (.bool true) := (hb.cell (by first | assumption | (simp; done) | (simp; omega) | omega)).trans (by simp [go_sem, *])
  have f0_0 : w1.frozen? ⟨w.heap.size, 0, none⟩ = false := (hb.frozen (by first | assumption | (simp; done) | (simp; omega) | omega)).trans (by simp [go_sem, *])
  have c0_1 : w1.cell? ⟨w.heap.size, 1, none⟩ = some (.bool false) := (hb.cell (by first | assumption | (simp; done) | (simp; omega) | omega)).trans (by simp [go_sem, *])
  have f0_1 : w1.frozen? ⟨w.heap.size, 1, none⟩ = false := (hb.frozen (by first | assumption | (simp; done) | (simp; omega) | omega)).trans (by simp [go_sem, *])
  have c0_2 : w1.cell? ⟨w.heap.size, 2, none⟩ = some (.bool false) := (hb.cell (by first | assumption | (simp; done) | (simp; omega) | omega)).trans (by simp [go_sem, *])
  have f0_2 : w1.frozen? ⟨w.heap.size, 2, none⟩ = false := (hb.frozen (by first | assumption | (simp; done) | (simp; omega) | omega)).trans (by simp [go_sem, *])
  have c0_3 : w1.cell? ⟨w.heap.size, 3, none⟩ = some (.int .i64 n) := (hb.cell (by first | assumption | (simp; done) | (simp; omega) | omega)).trans (by simp [go_sem, *])
  have f0_3 : w1.frozen? ⟨w.heap.size, 3, none⟩ = false := (hb.frozen (by first | assumption | (simp; done) | (simp; omega) | omega)).trans (by simp [go_sem, *])
  have z0 : w.heap.size < w1.heap.size := Nat.lt_of_lt_of_le (by first | assumption | (simp; done) | (simp; omega) | omega) hb.size
  have hB_w1 : Below w.heap.size w w1 := bstep (by go_grown) hb
  have hs_w1 : w.heap.size ≤ w1.heap.size := hB_w1.size
  clear hb
  go_wp2_with fail
  refine (fork_yes _ _ _ _ _ e2).mono ?_
  rintro e w2 ⟨rfl, hb⟩
  have c0_0 : w2.cell? ⟨w.heap.size, 0, none⟩ = some (.bool true) := (hb.cell (by first | assumption | (simp; done) | (simp; omega) | omega)).trans (by simp [go_sem, *])
  have f0_0 : w2.frozen? ⟨w.heap.size, 0, none⟩ = false := (hb.frozen (by first | assumption | (simp; done) | (simp; omega) | omega)).trans (by simp [go_sem, *])
  have c0_1 : w2.cell? ⟨w.heap.size, 1, none⟩ = some (.bool false) := (hb.cell (by first | assumption | (simp; done) | (simp; omega) | omega)).trans (by simp [go_sem, *])
  have f0_1 : w2.frozen? ⟨w.heap.size, 1, none⟩ = false := (hb.frozen (by first | assumption | (simp; done) | (simp; omega) | omega)).trans (by simp [go_sem, *])
  have c0_2 : w2.cell? ⟨w.heap.size, 2, none⟩ = some (.bool false) := (hb.cell (by first | assumption | (simp; done) | (simp; omega) | omega)).trans (by simp [go_sem, *])
  have f0_2 : w2.frozen? ⟨w.heap.size, 2, none⟩ = false := (hb.frozen (by first | assumption | (simp; done) | (simp; omega) | omega)).trans (by simp [go_sem, *])
  have c0_3 : w2.cell? ⟨w.heap.size, 3, none⟩ = some (.int .i64 n) := (hb.cell (by first | assumption | (simp; done) | (simp; omega) | omega)).trans (by simp [go_sem, *])
  have f0_3 : w2.frozen? ⟨w.heap.size, 3, none⟩ = false := (hb.frozen (by first | assumption | (simp; done) | (simp; omega) | omega)).trans (by simp [go_sem, *])
  have z0 : w.heap.size < w2.heap.size := Nat.lt_of_lt_of_le (by first | assumption | (simp; done) | (simp; omega) | omega) hb.size
  have c1_0 : w2.cell? ⟨w1.heap.size, 0, none⟩ = some (.bool true) := (hb.cell (by first | assumption | (simp; done) | (simp; omega) | omega)).trans (by simp [go_sem, *])
  have f1_0 : w2.frozen? ⟨w1.heap.size, 0, none⟩ = false := (hb.frozen (by first | assumption | (simp; done) | (simp; omega) | omega)).trans (by simp [go_sem, *])
  have c1_1 : w2.cell? ⟨w1.heap.size, 1, none⟩ = some (.bool false) := (hb.cell (by first | assumption | (simp; done) | (simp; omega) | omega)).trans (by simp [go_sem, *])
  have f1_1 : w2.frozen? ⟨w1.heap.size, 1, none⟩ = false := (hb.frozen (by first | assumption | (simp; done) | (simp; omega) | omega)).trans (by simp [go_sem, *])
  have c1_2 : w2.cell? ⟨w1.heap.size, 2, none⟩ = some (.bool false) := (hb.cell (by first | assumption | (simp; done) | (simp; omega) | omega)).trans (by simp [go_sem, *])
  have f1_2 : w2.frozen? ⟨w1.heap.size, 2, none⟩ = false := (hb.frozen (by first | assumption | (simp; done) | (simp; omega) | omega)).trans (by simp [go_sem, *])
  have c1_3 : w2.cell? ⟨w1.heap.size, 3, none⟩ = some (.int .i64 n) := (hb.cell (by first | assumption | (simp; done) | (simp; omega) | omega)).trans (by simp [go_sem, *])
  have f1_3 : w2.frozen? ⟨w1.heap.size, 3, none⟩ = false := (hb.frozen (by first | assumption | (simp; done) | (simp; omega) | omega)).trans (by simp [go_sem, *])
  have z1 : w1.heap.size < w2.heap.size := Nat.lt_of_lt_of_le (by first | assumption | (simp; done) | (simp; omega) | omega) hb.size
  have hB_w2 : Below w.heap.size w w2 := bstep (by go_grown) hb
  have hs_w2 : w.heap.size ≤ w2.heap.size := hB_w2.size
  clear hb
  go_wp2_with fail
  refine (write_any _ _ _ _ _ _).mono ?_
  rintro e w3 ⟨rfl, hb⟩
  have c0_0 : w3.cell? ⟨w.heap.size, 0, none⟩ = some (.bool true) := (hb.cell (by first | assumption | (simp; done) | (simp; omega) | omega)).trans (by simp [go_sem, *])
  have f0_0 : w3.frozen? ⟨w.heap.size, 0, none⟩ = false := (hb.frozen (by first | assumption | (simp; done) | (simp; omega) | omega)).trans (by simp [go_sem, *])
  have c0_1 : w3.cell? ⟨w.heap.size, 1, none⟩ = some (.bool false) := (hb.cell (by first | assumption | (simp; done) | (simp; omega) | omega)).trans (by simp [go_sem, *])
  have f0_1 : w3.frozen? ⟨w.heap.size, 1, none⟩ = false := (hb.frozen (by first | assumption | (simp; done) | (simp; omega) | omega)).trans (by simp [go_sem, *])
  have c0_2 : w3.cell? ⟨w.heap.size, 2, none⟩ = some (.bool false) := (hb.cell (by first | assumption | (simp; done) | (simp; omega) | omega)).trans (by simp [go_sem, *])
  have f0_2 : w3.frozen? ⟨w.heap.size, 2, none⟩ = false := (hb.frozen (by first | assumption | (simp; done) | (simp; omega) | omega)).trans (by simp [go_sem, *])
  have c0_3 : w3.cell? ⟨w.heap.size, 3, none⟩ = some (.int .i64 n) := (hb.cell (by first | assumption | (simp; done) | (simp; omega) | omega)).trans (by simp [go_sem, *])
  have f0_3 : w3.frozen? ⟨w.heap.size, 3, none⟩ = false := (hb.frozen (by first | assumption | (simp; done) | (simp; omega) | omega)).trans (by simp [go_sem, *])
  have z0 : w.heap.size < w3.heap.size := Nat.lt_of_lt_of_le (by first | assumption | (simp; done) | (simp; omega) | omega) hb.size
  have c1_0 : w3.cell? ⟨w1.heap.size, 0, none⟩ = some (.bool true) := (hb.cell (by first | assumption | (simp; done) | (simp; omega) | omega)).trans (by simp [go_sem, *])
  have f1_0 : w3.frozen? ⟨w1.heap.size, 0, none⟩ = false := (hb.frozen (by first | assumption | (simp; done) | (simp; omega) | omega)).trans (by simp [go_sem, *])
  have c1_1 : w3.cell? ⟨w1.heap.size, 1, none⟩ = some (.bool false) := (hb.cell (by first | assumption | (simp; done) | (simp; omega) | omega)).trans (by simp [go_sem, *])
  have f1_1 : w3.frozen? ⟨w1.heap.size, 1, none⟩ = false := (hb.frozen (by first | assumption | (simp; done) | (simp; omega) | omega)).trans (by simp [go_sem, *])
  have c1_2 : w3.cell? ⟨w1.heap.size, 2, none⟩ = some (.bool false) := (hb.cell (by first | assumption | (simp; done) | (simp; omega) | omega)).trans (by simp [go_sem, *])
  have f1_2 : w3.frozen? ⟨w1.heap.size, 2, none⟩ = false := (hb.frozen (by first | assumption | (simp; done) | (simp; omega) | omega)).trans (by simp [go_sem, *])
  have c1_3 : w3.cell? ⟨w1.heap.size, 3, none⟩ = some (.int .i64 n) := (hb.cell (by first | assumption | (simp; done) | (simp; omega) | omega)).trans (by simp [go_sem, *])
  have f1_3 : w3.frozen? ⟨w1.heap.size, 3, none⟩ = false := (hb.frozen (by first | assumption | (simp; done) | (simp; omega) | omega)).trans (by simp [go_sem, *])
  have z1 : w1.heap.size < w3.heap.size := Nat.lt_of_lt_of_le (by first | assumption | (simp; done) | (simp; omega) | omega) hb.size
  have c2_0 : w3.cell? ⟨w2.heap.size, 0, none⟩ = some (.bool true) := (hb.cell (by first | assumption | (simp; done) | (simp; omega) | omega)).trans (by simp [go_sem, *])
  have f2_0 : w3.frozen? ⟨w2.heap.size, 0, none⟩ = false := (hb.frozen (by first | assumption | (simp; done) | (simp; omega) | omega)).trans (by simp [go_sem, *])
  have c2_1 : w3.cell? ⟨w2.heap.size, 1, none⟩ = some (.bool false) := (hb.cell (by first | assumption | (simp; done) | (simp; omega) | omega)).trans (by simp [go_sem, *])
  have f2_1 : w3.frozen? ⟨w2.heap.size, 1, none⟩ = false := (hb.frozen (by first | assumption | (simp; done) | (simp; omega) | omega)).trans (by simp [go_sem, *])
  have c2_2 : w3.cell? ⟨w2.heap.size, 2, none⟩ = some (.bool false) := (hb.cell (by first | assumption | (simp; done) | (simp; omega) | omega)).trans (by simp [go_sem, *])
  have f2_2 : w3.frozen? ⟨w2.heap.size, 2, none⟩ = false := (hb.frozen (by first | assumption | (simp; done) | (simp; omega) | omega)).trans (by simp [go_sem, *])
  have c2_3 : w3.cell? ⟨w2.heap.size, 3, none⟩ = some (.int .i64 n) := (hb.cell (by first | assumption | (simp; done) | (simp; omega) | omega)).trans (by simp [go_sem, *])
  have f2_3 : w3.frozen? ⟨w2.heap.size, 3, none⟩ = false := (hb.frozen (by first | assumption | (simp; done) | (simp; omega) | omega)).trans (by simp [go_sem, *])
  have z2 : w2.heap.size < w3.heap.size := Nat.lt_of_lt_of_le (by first | assumption | (simp; done) | (simp; omega) | omega) hb.size
  have hB_w3 : Below w.heap.size w w3 := bstep (by go_grown) hb
  have hs_w3 : w.heap.size ≤ w3.heap.size := hB_w3.size
  clear hb
  go_wp2_with fail
  refine (set_yes _ _ _ _ _ _ _ e3).mono ?_
  rintro e w4 ⟨rfl, hb⟩
  have c0_0 : w4.cell? ⟨w.heap.size, 0, none⟩ = some (.bool true) := (hb.cell (by first | assumption | (simp; done) | (simp; omega) | omega)).trans (by simp [go_sem, *])
  have f0_0 : w4.frozen? ⟨w.heap.size, 0, none⟩ = false := (hb.frozen (by first | assumption | (simp; done) | (simp; omega) | omega)).trans (by simp [go_sem, *])
  have c0_1 : w4.cell? ⟨w.heap.size, 1, none⟩ = some (.bool false) := (hb.cell (by first | assumption | (simp; done) | (simp; omega) | omega)).trans (by simp [go_sem, *])
  have f0_1 : w4.frozen? ⟨w.heap.size, 1, none⟩ = false := (hb.frozen (by first | assumption | (simp; done) | (simp; omega) | omega)).trans (by simp [go_sem, *])
  have c0_2 : w4.cell? ⟨w.heap.size, 2, none⟩ = some (.bool false) := (hb.cell (by first | assumption | (simp; done) | (simp; omega) | omega)).trans (by simp [go_sem, *])
  have f0_2 : w4.frozen? ⟨w.heap.size, 2, none⟩ = false := (hb.frozen (by first | assumption | (simp; done) | (simp; omega) | omega)).trans (by simp [go_sem, *])
  have c0_3 : w4.cell? ⟨w.heap.size, 3, none⟩ = some (.int .i64 n) := (hb.cell (by first | assumption | (simp; done) | (simp; omega) | omega)).trans (by simp [go_sem, *])
  have f0_3 : w4.frozen? ⟨w.heap.size, 3, none⟩ = false := (hb.frozen (by first | assumption | (simp; done) | (simp; omega) | omega)).trans (by simp [go_sem, *])
  have z0 : w.heap.size < w4.heap.size := Nat.lt_of_lt_of_le (by first | assumption | (simp; done) | (simp; omega) | omega) hb.size
  have c1_0 : w4.cell? ⟨w1.heap.size, 0, none⟩ = some (.bool true) := (hb.cell (by first | assumption | (simp; done) | (simp; omega) | omega)).trans (by simp [go_sem, *])
  have f1_0 : w4.frozen? ⟨w1.heap.size, 0, none⟩ = false := (hb.frozen (by first | assumption | (simp; done) | (simp; omega) | omega)).trans (by simp [go_sem, *])
  have c1_1 : w4.cell? ⟨w1.heap.size, 1, none⟩ = some (.bool false) := (hb.cell (by first | assumption | (simp; done) | (simp; omega) | omega)).trans (by simp [go_sem, *])
  have f1_1 : w4.frozen? ⟨w1.heap.size, 1, none⟩ = false := (hb.frozen (by first | assumption | (simp; done) | (simp; omega) | omega)).trans (by simp [go_sem, *])
  have c1_2 : w4.cell? ⟨w1.heap.size, 2, none⟩ = some (.bool false) := (hb.cell (by first | assumption | (simp; done) | (simp; omega) | omega)).trans (by simp [go_sem, *])
  have f1_2 : w4.frozen? ⟨w1.heap.size, 2, none⟩ = false := (hb.frozen (by first | assumption | (simp; done) | (simp; omega) | omega)).trans (by simp [go_sem, *])
  have c1_3 : w4.cell? ⟨w1.heap.size, 3, none⟩ = some (.int .i64 n) := (hb.cell (by first | assumption | (simp; done) | (simp; omega) | omega)).trans (by simp [go_sem, *])
  have f1_3 : w4.frozen? ⟨w1.heap.size, 3, none⟩ = false := (hb.frozen (by first | assumption | (simp; done) | (simp; omega) | omega)).trans (by simp [go_sem, *])
  have z1 : w1.heap.size < w4.heap.size := Nat.lt_of_lt_of_le (by first | assumption | (simp; done) | (simp; omega) | omega) hb.size
  have c2_0 : w4.cell? ⟨w2.heap.size, 0, none⟩ = some (.bool true) := (hb.cell (by first | assumption | (simp; done) | (simp; omega) | omega)).trans (by simp [go_sem, *])
  have f2_0 : w4.frozen? ⟨w2.heap.size, 0, none⟩ = false := (hb.frozen (by first | assumption | (simp; done) | (simp; omega) | omega)).trans (by simp [go_sem, *])
  have c2_1 : w4.cell? ⟨w2.heap.size, 1, none⟩ = some (.bool false) := (hb.cell (by first | assumption | (simp; done) | (simp; omega) | omega)).trans (by simp [go_sem, *])
  have f2_1 : w4.frozen? ⟨w2.heap.size, 1, none⟩ = false := (hb.frozen (by first | assumption | (simp; done) | (simp; omega) | omega)).trans (by simp [go_sem, *])
  have c2_2 : w4.cell? ⟨w2.heap.size, 2, none⟩ = some (.bool false) := (hb.cell (by first | assumption | (simp; done) | (simp; omega) | omega)).trans (by simp [go_sem, *])
  have f2_2 : w4.frozen? ⟨w2.heap.size, 2, none⟩ = false := (hb.frozen (by first | assumption | (simp; done) | (simp; omega) | omega)).trans (by simp [go_sem, *])
  have c2_3 : w4.cell? ⟨w2.heap.size, 3, none⟩ = some (.int .i64 n) := (hb.cell (by first | assumption | (simp; done) | (simp; omega) | omega)).trans (by simp [go_sem, *])
  have f2_3 : w4.frozen? ⟨w2.heap.size, 3, none⟩ = false := (hb.frozen (by first | assumption | (simp; done) | (simp; omega) | omega)).trans (by simp [go_sem, *])
  have z2 : w2.heap.size < w4.heap.size := Nat.lt_of_lt_of_le (by first | assumption | (simp; done) | (simp; omega) | omega) hb.size
  have hB_w4 : Below w.heap.size w w4 := bstep (by go_grown) hb
  have hs_w4 : w.heap.size ≤ w4.heap.size := hB_w4.size
  clear hb
  go_wp2_with fail
  refine (write_any _ _ _ _ _ _).mono ?_
  rintro e w5 ⟨rfl, hb⟩
  have c0_0 : w5.cell? ⟨w.heap.size, 0, none⟩ = some (.bool true) := (hb.cell (by first | assumption | (simp; done) | (simp; omega) | omega)).trans (by simp [go_sem, *])
  have f0_0 : w5.frozen? ⟨w.heap.size, 0, none⟩ = false := (hb.frozen (by first | assumption | (simp; done) | (simp; omega) | omega)).trans (by simp [go_sem, *])
  have c0_1 : w5.cell? ⟨w.heap.size, 1, none⟩ = some (.bool false) := (hb.cell (by first | assumption | (simp; done) | (simp; omega) | omega)).trans (by simp [go_sem, *])
  have f0_1 : w5.frozen? ⟨w.heap.size, 1, none⟩ = false := (hb.frozen (by first | assumption | (simp; done) | (simp; omega) | omega)).trans (by simp [go_sem, *])
  have c0_2 : w5.cell? ⟨w.heap.size, 2, none⟩ = some (.bool false) := (hb.cell (by first | assumption | (simp; done) | (simp; omega) | omega)).trans (by simp [go_sem, *])
  have f0_2 : w5.frozen? ⟨w.heap.size, 2, none⟩ = false := (hb.frozen (by first | assumption | (simp; done) | (simp; omega) | omega)).trans (by simp [go_sem, *])
  have c0_3 : w5.cell? ⟨w.heap.size, 3, none⟩ = some (.int .i64 n) := (hb.cell (by first | assumption | (simp; done) | (simp; omega) | omega)).trans (by simp [go_sem, *])
  have f0_3 : w5.frozen? ⟨w.heap.size, 3, none⟩ = false := (hb.frozen (by first | assumption | (simp; done) | (simp; omega) | omega)).trans (by simp [go_sem, *])
  have z0 : w.heap.size < w5.heap.size := Nat.lt_of_lt_of_le (by first | assumption | (simp; done) | (simp; omega) | omega) hb.size
  have c1_0 : w5.cell? ⟨w1.heap.size, 0, none⟩ = some (.bool true) := (hb.cell (by first | assumption | (simp; done) | (simp; omega) | omega)).trans (by simp [go_sem, *])
  have f1_0 : w5.frozen? ⟨w1.heap.size, 0, none⟩ = false := (hb.frozen (by first | assumption | (simp; done) | (simp; omega) | omega)).trans (by simp [go_sem, *])
  have c1_1 : w5.cell? ⟨w1.heap.size, 1, none⟩ = some (.bool false) := (hb.cell (by first | assumption | (simp; done) | (simp; omega) | omega)).trans (by simp [go_sem, *])
  have f1_1 : w5.frozen? ⟨w1.heap.size, 1, none⟩ = false := (hb.frozen (by first | assumption | (simp; done) | (simp; omega) | omega)).trans (by simp [go_sem, *])
  have c1_2 : w5.cell? ⟨w1.heap.size, 2, none⟩ = some (.bool false) := (hb.cell (by first | assumption | (simp; done) | (simp; omega) | omega)).trans (by simp [go_sem, *])
  have f1_2 : w5.frozen? ⟨w1.heap.size, 2, none⟩ = false := (hb.frozen (by first | assumption | (simp; done) | (simp; omega) | omega)).trans (by simp [go_sem, *])
  have c1_3 : w5.cell? ⟨w1.heap.size, 3, none⟩ = some (.int .i64 n) := (hb.cell (by first | assumption | (simp; done) | (simp; omega) | omega)).trans (by simp [go_sem, *])
  have f1_3 : w5.frozen? ⟨w1.heap.size, 3, none⟩ = false := (hb.frozen (by first | assumption | (simp; done) | (simp; omega) | omega)).trans (by simp [go_sem, *])
  have z1 : w1.heap.size < w5.heap.size := Nat.lt_of_lt_of_le (by first | assumption | (simp; done) | (simp; omega) | omega) hb.size
  have c2_0 : w5.cell? ⟨w2.heap.size, 0, none⟩ = some (.bool true) := (hb.cell (by first | assumption | (simp; done) | (simp; omega) | omega)).trans (by simp [go_sem, *])
  have f2_0 : w5.frozen? ⟨w2.heap.size, 0, none⟩ = false := (hb.frozen (by first | assumption | (simp; done) | (simp; omega) | omega)).trans (by simp [go_sem, *])
  have c2_1 : w5.cell? ⟨w2.heap.size, 1, none⟩ = some (.bool false) := (hb.cell (by first | assumption | (simp; done) | (simp; omega) | omega)).trans (by simp [go_sem, *])
  have f2_1 : w5.frozen? ⟨w2.heap.size, 1, none⟩ = false := (hb.frozen (by first | assumption | (simp; done) | (simp; omega) | omega)).trans (by simp [go_sem, *])
  have c2_2 : w5.cell? ⟨w2.heap.size, 2, none⟩ = some (.bool false) := (hb.cell (by first | assumption | (simp; done) | (simp; omega) | omega)).trans (by simp [go_sem, *])
  have f2_2 : w5.frozen? ⟨w2.heap.size, 2, none⟩ = false := (hb.frozen (by first | assumption | (simp; done) | (simp; omega) | omega)).trans (by simp [go_sem, *])
  have c2_3 : w5.cell? ⟨w2.heap.size, 3, none⟩ = some (.int .i64 n) := (hb.cell (by first | assumption | (simp; done) | (simp; omega) | omega)).trans (by simp [go_sem, *])
  have f2_3 : w5.frozen? ⟨w2.heap.size, 3, none⟩ = false := (hb.frozen (by first | assumption | (simp; done) | (simp; omega) | omega)).trans (by simp [go_sem, *])
  have z2 : w2.heap.size < w5.heap.size := Nat.lt_of_lt_of_le (by first | assumption | (simp; done) | (simp; omega) | omega) hb.size
  have c3_0 : w5.cell? ⟨w4.heap.size, 0, none⟩ = some (.bool true) := (hb.cell (by first | assumption | (simp; done) | (simp; omega) | omega)).trans (by simp [go_sem, *])
  have f3_0 : w5.frozen? ⟨w4.heap.size, 0, none⟩ = false := (hb.frozen (by first | assumption | (simp; done) | (simp; omega) | omega)).trans (by simp [go_sem, *])
  have c3_1 : w5.cell? ⟨w4.heap.size, 1, none⟩ = some (.bool true) := (hb.cell (by first | assumption | (simp; done) | (simp; omega) | omega)).trans (by simp [go_sem, *])
  have f3_1 : w5.frozen? ⟨w4.heap.size, 1, none⟩ = false := (hb.frozen (by first | assumption | (simp; done) | (simp; omega) | omega)).trans (by simp [go_sem, *])
  have c3_2 : w5.cell? ⟨w4.heap.size, 2, none⟩ = some (.bool false) := (hb.cell (by first | assumption | (simp; done) | (simp; omega) | omega)).trans (by simp [go_sem, *])
  have f3_2 : w5.frozen? ⟨w4.heap.size, 2, none⟩ = false := (hb.frozen (by first | assumption | (simp; done) | (simp; omega) | omega)).trans (by simp [go_sem, *])
  have c3_3 : w5.cell? ⟨w4.heap.size, 3, none⟩ = some (.int .i64 n) := (hb.cell (by first | assumption | (simp; done) | (simp; omega) | omega)).trans (by simp [go_sem, *])
  have f3_3 : w5.frozen? ⟨w4.heap.size, 3, none⟩ = false := (hb.frozen (by first | assumption | (simp; done) | (simp; omega) | omega)).trans (by simp [go_sem, *])
  have z3 : w4.heap.size < w5.heap.size := Nat.lt_of_lt_of_le (by first | assumption | (simp; done) | (simp; omega) | omega) hb.size
  have hB_w5 : Below w.heap.size w w5 := bstep (by go_grown) hb
  have hs_w5 : w.heap.size ≤ w5.heap.size := hB_w5.size
  clear hb
  go_wp2_with fail
  refine (awake_any _).mono ?_
  rintro e w9 ⟨rfl, hb⟩
  go_wp2
  go_returns
  exact ⟨by simp_all, bstep (by go_grown) hb⟩
set_option maxHeartbeats 2000000 in
theorem never_ff_one_f (n : Int) (w : World) (h1 : 0 ≤ n) (h2 : n < 1024) :
    Calls Try.prog 6 #[.agg #[.bool true, .bool false, .bool false, .int .i64 n], .int .i64 1, .bool false] w fun e w' => e = .returned (.bool true) ∧ Below w.heap.size w w' := by
  have e1 : fin true false false n 1 = true := fin_mk h1 h2 rfl (by omega)
  have e2 : fin true false false n 1 = true := fin_mk h1 h2 rfl (by omega)
  have e4 : fin true false false n 1 = true := fin_mk h1 h2 rfl (by omega)
  have g1 : wr true false false n 1 = 0 := by rw [wr_of e4]; simp
  have g2 : wrE true false false n 1 = 8 := by rw [wrE_of e4]; simp
  have n2 : ((false : Bool) || false) = false := rfl
  have e3 : fin true false false n 1 = true := fin_mk h1 h2 rfl (by omega)
  have e5 : fin true false false n 1 = true := fin_mk h1 h2 rfl (by omega)
  have g3 : wr true false false n 1 = 0 := by rw [wr_of e5]; simp
  have g4 : wrE true false false n 1 = 8 := by rw [wrE_of e5]; simp
  go_enter Try.func6, Try.ntmps6
  go_wp2_with fail
  refine (fork_yes _ _ _ _ _ e1).mono ?_
  rintro e w1 ⟨rfl, hb⟩
  have c0_0 : w1.cell? ⟨w.heap.size, 0, none⟩ = some (.bool true) := (hb.cell (by first | assumption | (simp; done) | (simp; omega) | omega)).trans (by simp [go_sem, *])
  have f0_0 : w1.frozen? ⟨w.heap.size, 0, none⟩ = false := (hb.frozen (by first | assumption | (simp; done) | (simp; omega) | omega)).trans (by simp [go_sem, *])
  have c0_1 : w1.cell? ⟨w.heap.size, 1, none⟩ = some (.bool false) := (hb.cell (by first | assumption | (simp; done) | (simp; omega) | omega)).trans (by simp [go_sem, *])
  have f0_1 : w1.frozen? ⟨w.heap.size, 1, none⟩ = false := (hb.frozen (by first | assumption | (simp; done) | (simp; omega) | omega)).trans (by simp [go_sem, *])
  have c0_2 : w1.cell? ⟨w.heap.size, 2, none⟩ = some (.bool false) := (hb.cell (by first | assumption | (simp; done) | (simp; omega) | omega)).trans (by simp [go_sem, *])
  have f0_2 : w1.frozen? ⟨w.heap.size, 2, none⟩ = false := (hb.frozen (by first | assumption | (simp; done) | (simp; omega) | omega)).trans (by simp [go_sem, *])
  have c0_3 : w1.cell? ⟨w.heap.size, 3, none⟩ = some (.int .i64 n) := (hb.cell (by first | assumption | (simp; done) | (simp; omega) | omega)).trans (by simp [go_sem, *])
  have f0_3 : w1.frozen? ⟨w.heap.size, 3, none⟩ = false := (hb.frozen (by first | assumption | (simp; done) | (simp; omega) | omega)).trans (by simp [go_sem, *])
  have z0 : w.heap.size < w1.heap.size := Nat.lt_of_lt_of_le (by first | assumption | (simp; done) | (simp; omega) | omega) hb.size
  have hB_w1 : Below w.heap.size w w1 := bstep (by go_grown) hb
  have hs_w1 : w.heap.size ≤ w1.heap.size := hB_w1.size
  clear hb
  go_wp2_with fail
  refine (fork_yes _ _ _ _ _ e2).mono ?_
  rintro e w2 ⟨rfl, hb⟩
  have c0_0 : w2.cell? ⟨w.heap.size, 0, none⟩ = some (.bool true) := (hb.cell (by first | assumption | (simp; done) | (simp; omega) | omega)).trans (by simp [go_sem, *])
  have f0_0 : w2.frozen? ⟨w.heap.size, 0, none⟩ = false := (hb.frozen (by first | assumption | (simp; done) | (simp; omega) | omega)).trans (by simp [go_sem, *])
  have c0_1 : w2.cell? ⟨w.heap.size, 1, none⟩ = some (.bool false) := (hb.cell (by first | assumption | (simp; done) | (simp; omega) | omega)).trans (by simp [go_sem, *])
  have f0_1 : w2.frozen? ⟨w.heap.size, 1, none⟩ = false := (hb.frozen (by first | assumption | (simp; done) | (simp; omega) | omega)).trans (by simp [go_sem, *])
  have c0_2 : w2.cell? ⟨w.heap.size, 2, none⟩ = some (.bool false) := (hb.cell (by first | assumption | (simp; done) | (simp; omega) | omega)).trans (by simp [go_sem, *])
  have f0_2 : w2.frozen? ⟨w.heap.size, 2, none⟩ = false := (hb.frozen (by first | assumption | (simp; done) | (simp; omega) | omega)).trans (by simp [go_sem, *])
  have c0_3 : w2.cell? ⟨w.heap.size, 3, none⟩ = some (.int .i64 n) := (hb.cell (by first | assumption | (simp; done) | (simp; omega) | omega)).trans (by simp [go_sem, *])
  have f0_3 : w2.frozen? ⟨w.heap.size, 3, none⟩ = false := (hb.frozen (by first | assumption | (simp; done) | (simp; omega) | omega)).trans (by simp [go_sem, *])
  have z0 : w.heap.size < w2.heap.size := Nat.lt_of_lt_of_le (by first | assumption | (simp; done) | (simp; omega) | omega) hb.size
  have c1_0 : w2.cell? ⟨w1.heap.size, 0, none⟩ = some (.bool true) := (hb.cell (by first | assumption | (simp; done) | (simp; omega) | omega)).trans (by simp [go_sem, *])
  have f1_0 : w2.frozen? ⟨w1.heap.size, 0, none⟩ = false := (hb.frozen (by first | assumption | (simp; done) | (simp; omega) | omega)).trans (by simp [go_sem, *])
  have c1_1 : w2.cell? ⟨w1.heap.size, 1, none⟩ = some (.bool false) := (hb.cell (by first | assumption | (simp; done) | (simp; omega) | omega)).trans (by simp [go_sem, *])
  have f1_1 : w2.frozen? ⟨w1.heap.size, 1, none⟩ = false := (hb.frozen (by first | assumption | (simp; done) | (simp; omega) | omega)).trans (by simp [go_sem, *])
  have c1_2 : w2.cell? ⟨w1.heap.size, 2, none⟩ = some (.bool false) := (hb.cell (by first | assumption | (simp; done) | (simp; omega) | omega)).trans (by simp [go_sem, *])
  have f1_2 : w2.frozen? ⟨w1.heap.size, 2, none⟩ = false := (hb.frozen (by first | assumption | (simp; done) | (simp; omega) | omega)).trans (by simp [go_sem, *])
  have c1_3 : w2.cell? ⟨w1.heap.size, 3, none⟩ = some (.int .i64 n) := (hb.cell (by first | assumption | (simp; done) | (simp; omega) | omega)).trans (by simp [go_sem, *])
  have f1_3 : w2.frozen? ⟨w1.heap.size, 3, none⟩ = false := (hb.frozen (by first | assumption | (simp; done) | (simp; omega) | omega)).trans (by simp [go_sem, *])
  have z1 : w1.heap.size < w2.heap.size := Nat.lt_of_lt_of_le (by first | assumption | (simp; done) | (simp; omega) | omega) hb.size
  have hB_w2 : Below w.heap.size w w2 := bstep (by go_grown) hb
  have hs_w2 : w.heap.size ≤ w2.heap.size := hB_w2.size
  clear hb
  go_wp2_with fail
  refine (write_any _ _ _ _ _ _).mono ?_
  rintro e w3 ⟨rfl, hb⟩
  have c0_0 : w3.cell? ⟨w.heap.size, 0, none⟩ = some (.bool true) := (hb.cell (by first | assumption | (simp; done) | (simp; omega) | omega)).trans (by simp [go_sem, *])
  have f0_0 : w3.frozen? ⟨w.heap.size, 0, none⟩ = false := (hb.frozen (by first | assumption | (simp; done) | (simp; omega) | omega)).trans (by simp [go_sem, *])
  have c0_1 : w3.cell? ⟨w.heap.size, 1, none⟩ = some (.bool false) := (hb.cell (by first | assumption | (simp; done) | (simp; omega) | omega)).trans (by simp [go_sem, *])
  have f0_1 : w3.frozen? ⟨w.heap.size, 1, none⟩ = false := (hb.frozen (by first | assumption | (simp; done) | (simp; omega) | omega)).trans (by simp [go_sem, *])
  have c0_2 : w3.cell? ⟨w.heap.size, 2, none⟩ = some (.bool false) := (hb.cell (by first | assumption | (simp; done) | (simp; omega) | omega)).trans (by simp [go_sem, *])
  have f0_2 : w3.frozen? ⟨w.heap.size, 2, none⟩ = false := (hb.frozen (by first | assumption | (simp; done) | (simp; omega) | omega)).trans (by simp [go_sem, *])
  have c0_3 : w3.cell? ⟨w.heap.size, 3, none⟩ = some (.int .i64 n) := (hb.cell (by first | assumption | (simp; done) | (simp; omega) | omega)).trans (by simp [go_sem, *])
  have f0_3 : w3.frozen? ⟨w.heap.size, 3, none⟩ = false := (hb.frozen (by first | assumption | (simp; done) | (simp; omega) | omega)).trans (by simp [go_sem, *])
  have z0 : w.heap.size < w3.heap.size := Nat.lt_of_lt_of_le (by first | assumption | (simp; done) | (simp; omega) | omega) hb.size
  have c1_0 : w3.cell? ⟨w1.heap.size, 0, none⟩ = some (.bool true) := (hb.cell (by first | assumption | (simp; done) | (simp; omega) | omega)).trans (by simp [go_sem, *])
  have f1_0 : w3.frozen? ⟨w1.heap.size, 0, none⟩ = false := (hb.frozen (by first | assumption | (simp; done) | (simp; omega) | omega)).trans (by simp [go_sem, *])
  have c1_1 : w3.cell? ⟨w1.heap.size, 1, none⟩ = some (.bool false) := (hb.cell (by first | assumption | (simp; done) | (simp; omega) | omega)).trans (by simp [go_sem, *])
  have f1_1 : w3.frozen? ⟨w1.heap.size, 1, none⟩ = false := (hb.frozen (by first | assumption | (simp; done) | (simp; omega) | omega)).trans (by simp [go_sem, *])
  have c1_2 : w3.cell? ⟨w1.heap.size, 2, none⟩ = some (.bool false) := (hb.cell (by first | assumption | (simp; done) | (simp; omega) | omega)).trans (by simp [go_sem, *])
  have f1_2 : w3.frozen? ⟨w1.heap.size, 2, none⟩ = false := (hb.frozen (by first | assumption | (simp; done) | (simp; omega) | omega)).trans (by simp [go_sem, *])
  have c1_3 : w3.cell? ⟨w1.heap.size, 3, none⟩ = some (.int .i64 n) := (hb.cell (by first | assumption | (simp; done) | (simp; omega) | omega)).trans (by simp [go_sem, *])
  have f1_3 : w3.frozen? ⟨w1.heap.size, 3, none⟩ = false := (hb.frozen (by first | assumption | (simp; done) | (simp; omega) | omega)).trans (by simp [go_sem, *])
  have z1 : w1.heap.size < w3.heap.size := Nat.lt_of_lt_of_le (by first | assumption | (simp; done) | (simp; omega) | omega) hb.size
  have c2_0 : w3.cell? ⟨w2.heap.size, 0, none⟩ = some (.bool true) := (hb.cell (by first | assumption | (simp; done) | (simp; omega) | omega)).trans (by simp [go_sem, *])
  have f2_0 : w3.frozen? ⟨w2.heap.size, 0, none⟩ = false := (hb.frozen (by first | assumption | (simp; done) | (simp; omega) | omega)).trans (by simp [go_sem, *])
  have c2_1 : w3.cell? ⟨w2.heap.size, 1, none⟩ = some (.bool false) := (hb.cell (by first | assumption | (simp; done) | (simp; omega) | omega)).trans (by simp [go_sem, *])
  have f2_1 : w3.frozen? ⟨w2.heap.size, 1, none⟩ = false := (hb.frozen (by first | assumption | (simp; done) | (simp; omega) | omega)).trans (by simp [go_sem, *])
  have c2_2 : w3.cell? ⟨w2.heap.size, 2, none⟩ = some (.bool false) := (hb.cell (by first | assumption | (simp; done) | (simp; omega) | omega)).trans (by simp [go_sem, *])
  have f2_2 : w3.frozen? ⟨w2.heap.size, 2, none⟩ = false := (hb.frozen (by first | assumption | (simp; done) | (simp; omega) | omega)).trans (by simp [go_sem, *])
  have c2_3 : w3.cell? ⟨w2.heap.size, 3, none⟩ = some (.int .i64 n) := (hb.cell (by first | assumption | (simp; done) | (simp; omega) | omega)).trans (by simp [go_sem, *])
  have f2_3 : w3.frozen? ⟨w2.heap.size, 3, none⟩ = false := (hb.frozen (by first | assumption | (simp; done) | (simp; omega) | omega)).trans (by simp [go_sem, *])
  have z2 : w2.heap.size < w3.heap.size := Nat.lt_of_lt_of_le (by first | assumption | (simp; done) | (simp; omega) | omega) hb.size
  have hB_w3 : Below w.heap.size w w3 := bstep (by go_grown) hb
  have hs_w3 : w.heap.size ≤ w3.heap.size := hB_w3.size
  clear hb
  go_wp2_with fail
  refine (set_yes _ _ _ _ _ _ _ e3).mono ?_
  rintro e w4 ⟨rfl, hb⟩
  have c0_0 : w4.cell? ⟨w.heap.size, 0, none⟩ = some (.bool true) := (hb.cell (by first | assumption | (simp; done) | (simp; omega) | omega)).trans (by simp [go_sem, *])
  have f0_0 : w4.frozen? ⟨w.heap.size, 0, none⟩ = false := (hb.frozen (by first | assumption | (simp; done) | (simp; omega) | omega)).trans (by simp [go_sem, *])
  have c0_1 : w4.cell? ⟨w.heap.size, 1, none⟩ = some (.bool false) := (hb.cell (by first | assumption | (simp; done) | (simp; omega) | omega)).trans (by simp [go_sem, *])
  have f0_1 : w4.frozen? ⟨w.heap.size, 1, none⟩ = false := (hb.frozen (by first | assumption | (simp; done) | (simp; omega) | omega)).trans (by simp [go_sem, *])
  have c0_2 : w4.cell? ⟨w.heap.size, 2, none⟩ = some (.bool false) := (hb.cell (by first | assumption | (simp; done) | (simp; omega) | omega)).trans (by simp [go_sem, *])
  have f0_2 : w4.frozen? ⟨w.heap.size, 2, none⟩ = false := (hb.frozen (by first | assumption | (simp; done) | (simp; omega) | omega)).trans (by simp [go_sem, *])
  have c0_3 : w4.cell? ⟨w.heap.size, 3, none⟩ = some (.int .i64 n) := (hb.cell (by first | assumption | (simp; done) | (simp; omega) | omega)).trans (by simp [go_sem, *])
  have f0_3 : w4.frozen? ⟨w.heap.size, 3, none⟩ = false := (hb.frozen (by first | assumption | (simp; done) | (simp; omega) | omega)).trans (by simp [go_sem, *])
  have z0 : w.heap.size < w4.heap.size := Nat.lt_of_lt_of_le (by first | assumption | (simp; done) | (simp; omega) | omega) hb.size
  have c1_0 : w4.cell? ⟨w1.heap.size, 0, none⟩ = some (.bool true) := (hb.cell (by first | assumption | (simp; done) | (simp; omega) | omega)).trans (by simp [go_sem, *])
  have f1_0 : w4.frozen? ⟨w1.heap.size, 0, none⟩ = false := (hb.frozen (by first | assumption | (simp; done) | (simp; omega) | omega)).trans (by simp [go_sem, *])
  have c1_1 : w4.cell? ⟨w1.heap.size, 1, none⟩ = some (.bool false) := (hb.cell (by first | assumption | (simp; done) | (simp; omega) | omega)).trans (by simp [go_sem, *])
  have f1_1 : w4.frozen? ⟨w1.heap.size, 1, none⟩ = false := (hb.frozen (by first | assumption | (simp; done) | (simp; omega) | omega)).trans (by simp [go_sem, *])
  have c1_2 : w4.cell? ⟨w1.heap.size, 2, none⟩ = some (.bool false) := (hb.cell (by first | assumption | (simp; done) | (simp; omega) | omega)).trans (by simp [go_sem, *])
  have f1_2 : w4.frozen? ⟨w1.heap.size, 2, none⟩ = false := (hb.frozen (by first | assumption | (simp; done) | (simp; omega) | omega)).trans (by simp [go_sem, *])
  have c1_3 : w4.cell? ⟨w1.heap.size, 3, none⟩ = some (.int .i64 n) := (hb.cell (by first | assumption | (simp; done) | (simp; omega) | omega)).trans (by simp [go_sem, *])
  have f1_3 : w4.frozen? ⟨w1.heap.size, 3, none⟩ = false := (hb.frozen (by first | assumption | (simp; done) | (simp; omega) | omega)).trans (by simp [go_sem, *])
  have z1 : w1.heap.size < w4.heap.size := Nat.lt_of_lt_of_le (by first | assumption | (simp; done) | (simp; omega) | omega) hb.size
  have c2_0 : w4.cell? ⟨w2.heap.size, 0, none⟩ = some (.bool true) := (hb.cell (by first | assumption | (simp; done) | (simp; omega) | omega)).trans (by simp [go_sem, *])
  have f2_0 : w4.frozen? ⟨w2.heap.size, 0, none⟩ = false := (hb.frozen (by first | assumption | (simp; done) | (simp; omega) | omega)).trans (by simp [go_sem, *])
  have c2_1 : w4.cell? ⟨w2.heap.size, 1, none⟩ = some (.bool false) := (hb.cell (by first | assumption | (simp; done) | (simp; omega) | omega)).trans (by simp [go_sem, *])
  have f2_1 : w4.frozen? ⟨w2.heap.size, 1, none⟩ = false := (hb.frozen (by first | assumption | (simp; done) | (simp; omega) | omega)).trans (by simp [go_sem, *])
  have c2_2 : w4.cell? ⟨w2.heap.size, 2, none⟩ = some (.bool false) := (hb.cell (by first | assumption | (simp; done) | (simp; omega) | omega)).trans (by simp [go_sem, *])
  have f2_2 : w4.frozen? ⟨w2.heap.size, 2, none⟩ = false := (hb.frozen (by first | assumption | (simp; done) | (simp; omega) | omega)).trans (by simp [go_sem, *])
  have c2_3 : w4.cell? ⟨w2.heap.size, 3, none⟩ = some (.int .i64 n) := (hb.cell (by first | assumption | (simp; done) | (simp; omega) | omega)).trans (by simp [go_sem, *])
  have f2_3 : w4.frozen? ⟨w2.heap.size, 3, none⟩ = false := (hb.frozen (by first | assumption | (simp; done) | (simp; omega) | omega)).trans (by simp [go_sem, *])
  have z2 : w2.heap.size < w4.heap.size := Nat.lt_of_lt_of_le (by first | assumption | (simp; done) | (simp; omega) | omega) hb.size
  have hB_w4 : Below w.heap.size w w4 := bstep (by go_grown) hb
  have hs_w4 : w.heap.size ≤ w4.heap.size := hB_w4.size
  clear hb
  go_wp2_with fail
  refine (write_any _ _ _ _ _ _).mono ?_
  rintro e w5 ⟨rfl, hb⟩
  have c0_0 : w5.cell? ⟨w.heap.size, 0, none⟩ = some (.bool true) := (hb.cell (by first | assumption | (simp; done) | (simp; omega) | omega)).trans (by simp [go_sem, *])
  have f0_0 : w5.frozen? ⟨w.heap.size, 0, none⟩ = false := (hb.frozen (by first | assumption | (simp; done) | (simp; omega) | omega)).trans (by simp [go_sem, *])
  have c0_1 : w5.cell? ⟨w.heap.size, 1, none⟩ = some (.bool false) := (hb.cell (by first | assumption | (simp; done) | (simp; omega) | omega)).trans (by simp [go_sem, *])
  have f0_1 : w5.frozen? ⟨w.heap.size, 1, none⟩ = false := (hb.frozen (by first | assumption | (simp; done) | (simp; omega) | omega)).trans (by simp [go_sem, *])
  have c0_2 : w5.cell? ⟨w.heap.size, 2, none⟩ = some (.bool false) := (hb.cell (by first | assumption | (simp; done) | (simp; omega) | omega)).trans (by simp [go_sem, *])
  have f0_2 : w5.frozen? ⟨w.heap.size, 2, none⟩ = false := (hb.frozen (by first | assumption | (simp; done) | (simp; omega) | omega)).trans (by simp [go_sem, *])
  have c0_3 : w5.cell? ⟨w.heap.size, 3, none⟩ = some (.int .i64 n) := (hb.cell (by first | assumption | (simp; done) | (simp; omega) | omega)).trans (by simp [go_sem, *])
  have f0_3 : w5.frozen? ⟨w.heap.size, 3, none⟩ = false := (hb.frozen (by first | assumption | (simp; done) | (simp; omega) | omega)).trans (by simp [go_sem, *])
  have z0 : w.heap.size < w5.heap.size := Nat.lt_of_lt_of_le (by first | assumption | (simp; done) | (simp; omega) | omega) hb.size
  have c1_0 : w5.cell? ⟨w1.heap.size, 0, none⟩ = some (.bool true) := (hb.cell (by first | assumption | (simp; done) | (simp; omega) | omega)).trans (by simp [go_sem, *])
  have f1_0 : w5.frozen? ⟨w1.heap.size, 0, none⟩ = false := (hb.frozen (by first | assumption | (simp; done) | (simp; omega) | omega)).trans (by simp [go_sem, *])
  have c1_1 : w5.cell? ⟨w1.heap.size, 1, none⟩ = some (.bool false) := (hb.cell (by first | assumption | (simp; done) | (simp; omega) | omega)).trans (by simp [go_sem, *])
  have f1_1 : w5.frozen? ⟨w1.heap.size, 1, none⟩ = false := (hb.frozen (by first | assumption | (simp; done) | (simp; omega) | omega)).trans (by simp [go_sem, *])
  have c1_2 : w5.cell? ⟨w1.heap.size, 2, none⟩ = some (.bool false) := (hb.cell (by first | assumption | (simp; done) | (simp; omega) | omega)).trans (by simp [go_sem, *])
  have f1_2 : w5.frozen? ⟨w1.heap.size, 2, none⟩ = false := (hb.frozen (by first | assumption | (simp; done) | (simp; omega) | omega)).trans (by simp [go_sem, *])
  have c1_3 : w5.cell? ⟨w1.heap.size, 3, none⟩ = some (.int .i64 n) := (hb.cell (by first | assumption | (simp; done) | (simp; omega) | omega)).trans (by simp [go_sem, *])
  have f1_3 : w5.frozen? ⟨w1.heap.size, 3, none⟩ = false := (hb.frozen (by first | assumption | (simp; done) | (simp; omega) | omega)).trans (by simp [go_sem, *])
  have z1 : w1.heap.size < w5.heap.size := Nat.lt_of_lt_of_le (by first | assumption | (simp; done) | (simp; omega) | omega) hb.size
  have c2_0 : w5.cell? ⟨w2.heap.size, 0, none⟩ = some (.bool true) := (hb.cell (by first | assumption | (simp; done) | (simp; omega) | omega)).trans (by simp [go_sem, *])
  have f2_0 : w5.frozen? ⟨w2.heap.size, 0, none⟩ = false := (hb.frozen (by first | assumption | (simp; done) | (simp; omega) | omega)).trans (by simp [go_sem, *])
  have c2_1 : w5.cell? ⟨w2.heap.size, 1, none⟩ = some (.bool false) := (hb.cell (by first | assumption | (simp; done) | (simp; omega) | omega)).trans (by simp [go_sem, *])
  have f2_1 : w5.frozen? ⟨w2.heap.size, 1, none⟩ = false := (hb.frozen (by first | assumption | (simp; done) | (simp; omega) | omega)).trans (by simp [go_sem, *])
  have c2_2 : w5.cell? ⟨w2.heap.size, 2, none⟩ = some (.bool false) := (hb.cell (by first | assumption | (simp; done) | (simp; omega) | omega)).trans (by simp [go_sem, *])
  have f2_2 : w5.frozen? ⟨w2.heap.size, 2, none⟩ = false := (hb.frozen (by first | assumption | (simp; done) | (simp; omega) | omega)).trans (by simp [go_sem, *])
  have c2_3 : w5.cell? ⟨w2.heap.size, 3, none⟩ = some (.int .i64 n) := (hb.cell (by first | assumption | (simp; done) | (simp; omega) | omega)).trans (by simp [go_sem, *])
  have f2_3 : w5.frozen? ⟨w2.heap.size, 3, none⟩ = false := (hb.frozen (by first | assumption | (simp; done) | (simp; omega) | omega)).trans (by simp [go_sem, *])
  have z2 : w2.heap.size < w5.heap.size := Nat.lt_of_lt_of_le (by first | assumption | (simp; done) | (simp; omega) | omega) hb.size
  have c3_0 : w5.cell? ⟨w4.heap.size, 0, none⟩ = some (.bool true) := (hb.cell (by first | assumption | (simp; done) | (simp; omega) | omega)).trans (by simp [go_sem, *])
  have f3_0 : w5.frozen? ⟨w4.heap.size, 0, none⟩ = false := (hb.frozen (by first | assumption | (simp; done) | (simp; omega) | omega)).trans (by simp [go_sem, *])
  have c3_1 : w5.cell? ⟨w4.heap.size, 1, none⟩ = some (.bool false) := (hb.cell (by first | assumption | (simp; done) | (simp; omega) | omega)).trans (by simp [go_sem, *])
  have f3_1 : w5.frozen? ⟨w4.heap.size, 1, none⟩ = false := (hb.frozen (by first | assumption | (simp; done) | (simp; omega) | omega)).trans (by simp [go_sem, *])
  have c3_2 : w5.cell? ⟨w4.heap.size, 2, none⟩ = some (.bool false) := (hb.cell (by first | assumption | (simp; done) | (simp; omega) | omega)).trans (by simp [go_sem, *])
  have f3_2 : w5.frozen? ⟨w4.heap.size, 2, none⟩ = false := (hb.frozen (by first | assumption | (simp; done) | (simp; omega) | omega)).trans (by simp [go_sem, *])
  have c3_3 : w5.cell? ⟨w4.heap.size, 3, none⟩ = some (.int .i64 n) := (hb.cell (by first | assumption | (simp; done) | (simp; omega) | omega)).trans (by simp [go_sem, *])
  have f3_3 : w5.frozen? ⟨w4.heap.size, 3, none⟩ = false := (hb.frozen (by first | assumption | (simp; done) | (simp; omega) | omega)).trans (by simp [go_sem, *])
  have z3 : w4.heap.size < w5.heap.size := Nat.lt_of_lt_of_le (by first | assumption | (simp; done) | (simp; omega) | omega) hb.size
  have hB_w5 : Below w.heap.size w w5 := bstep (by go_grown) hb
  have hs_w5 : w.heap.size ≤ w5.heap.size := hB_w5.size
  clear hb
  go_wp2_with fail
  refine (awake_any _).mono ?_
  rintro e w9 ⟨rfl, hb⟩
  go_wp2
  go_returns
  exact ⟨by simp_all, bstep (by go_grown) hb⟩
set_option maxHeartbeats 2000000 in
theorem never_tf_one_t (n : Int) (w : World) (h1 : 0 ≤ n) (h2 : n < 1024) :
    Calls Try.prog 6 #[.agg #[.bool true, .bool true, .bool false, .int .i64 n], .int .i64 1, .bool true] w fun e w' => e = .returned (.bool true) ∧ Below w.heap.size w w' := by
  have e1 : fin true true false n 1 = true := fin_mk h1 h2 rfl (by omega)
  have e2 : fin true false true n 1 = true := fin_mk h1 h2 rfl (by omega)
  have e4 : fin true false true n 1 = true := fin_mk h1 h2 rfl (by omega)
  have g1 : wr true false true n 1 = 2 := by rw [wr_of e4]; simp
  have g2 : wrE true false true n 1 = 0 := by rw [wrE_of e4]; simp
  have n2 : ((false : Bool) || true) = true := rfl
  have e3 : fin true true false n 1 = true := fin_mk h1 h2 rfl (by omega)
  have e5 : fin true true false n 1 = true := fin_mk h1 h2 rfl (by omega)
  have g3 : wr true true false n 1 = 1 := by rw [wr_of e5]; simp
  have g4 : wrE true true false n 1 = 0 := by rw [wrE_of e5]; simp
  go_enter Try.func6, Try.ntmps6
  go_wp2_with fail
  refine (fork_yes _ _ _ _ _ e1).mono ?_
  rintro e w1 ⟨rfl, hb⟩
  have c0_0 : w1.cell? ⟨w.heap.size, 0, none⟩ = some (.bool true) := (hb.cell (by first | assumption | (simp; done) | (simp; omega) | omega)).trans (by simp [go_sem, *])
  have f0_0 : w1.frozen? ⟨w.heap.size, 0, none⟩ = false := (hb.frozen (by first | assumption | (simp; done) | (simp; omega) | omega)).trans (by simp [go_sem, *])
  have c0_1 : w1.cell? ⟨w.heap.size, 1, none⟩ = some (.bool true) := (hb.cell (by first | assumption | (simp; done) | (simp; omega) | omega)).trans (by simp [go_sem, *])
  have f0_1 : w1.frozen? ⟨w.heap.size, 1, none⟩ = false := (hb.frozen (by first | assumption | (simp; done) | (simp; omega) | omega)).trans (by simp [go_sem, *])
  have c0_2 : w1.cell? ⟨w.heap.size, 2, none⟩ = some (.bool false) := (hb.cell (by first | assumption | (simp; done) | (simp; omega) | omega)).trans (by simp [go_sem, *])
  have f0_2 : w1.frozen? ⟨w.heap.size, 2, none⟩ = false := (hb.frozen (by first | assumption | (simp; done) | (simp; omega) | omega)).trans (by simp [go_sem, *])
  have c0_3 : w1.cell? ⟨w.heap.size, 3, none⟩ = some (.int .i64 n) := (hb.cell (by first | assumption | (simp; done) | (simp; omega) | omega)).trans (by simp [go_sem, *])
  have f0_3 : w1.frozen? ⟨w.heap.size, 3, none⟩ = false := (hb.frozen (by first | assumption | (simp; done) | (simp; omega) | omega)).trans (by simp [go_sem, *])
  have z0 : w.heap.size < w1.heap.size := Nat.lt_of_lt_of_le (by first | assumption | (simp; done) | (simp; omega) | omega) hb.size
  have hB_w1 : Below w.heap.size w w1 := bstep (by go_grown) hb
  have hs_w1 : w.heap.size ≤ w1.heap.size := hB_w1.size
  clear hb
  go_wp2_with fail
  refine (fork_yes _ _ _ _ _ e2).mono ?_
  rintro e w2 ⟨rfl, hb⟩
  have c0_0 : w2.cell? ⟨w.heap.size, 0, none⟩ = some (.bool true) := (hb.cell (by first | assumption | (simp; done) | (simp; omega) | omega)).trans (by simp [go_sem, *])
  have f0_0 : w2.frozen? ⟨w.heap.size, 0, none⟩ = false := (hb.frozen (by first | assumption | (simp; done) | (simp; omega) | omega)).trans (by simp [go_sem, *])
  have c0_1 : w2.cell? ⟨w.heap.size, 1, none⟩ = some (.bool true) := (hb.cell (by first | assumption | (simp; done) | (simp; omega) | omega)).trans (by simp [go_sem, *])
  have f0_1 : w2.frozen? ⟨w.heap.size, 1, none⟩ = false := (hb.frozen (by first | assumption | (simp; done) | (simp; omega) | omega)).trans (by simp [go_sem, *])
  have c0_2 : w2.cell? ⟨w.heap.size, 2, none⟩ = some (.bool false) := (hb.cell (by first | assumption | (simp; done) | (simp; omega) | omega)).trans (by simp [go_sem, *])
  have f0_2 : w2.frozen? ⟨w.heap.size, 2, none⟩ = false := (hb.frozen (by first | assumption | (simp; done) | (simp; omega) | omega)).trans (by simp [go_sem, *])
  have c0_3 : w2.cell? ⟨w.heap.size, 3, none⟩ = some (.int .i64 n) := (hb.cell (by first | assumption | (simp; done) | (simp; omega) | omega)).trans (by simp [go_sem, *])
  have f0_3 : w2.frozen? ⟨w.heap.size, 3, none⟩ = false := (hb.frozen (by first | assumption | (simp; done) | (simp; omega) | omega)).trans (by simp [go_sem, *])
  have z0 : w.heap.size < w2.heap.size := Nat.lt_of_lt_of_le (by first | assumption | (simp; done) | (simp; omega) | omega) hb.size
  have c1_0 : w2.cell? ⟨w1.heap.size, 0, none⟩ = some (.bool true) := (hb.cell (by first | assumption | (simp; done) | (simp; omega) | omega)).trans (by simp [go_sem, *])
  have f1_0 : w2.frozen? ⟨w1.heap.size, 0, none⟩ = false := (hb.frozen (by first | assumption | (simp; done) | (simp; omega) | omega)).trans (by simp [go_sem, *])
  have c1_1 : w2.cell? ⟨w1.heap.size, 1, none⟩ = some (.bool false) := (hb.cell (by first | assumption | (simp; done) | (simp; omega) | omega)).trans (by simp [go_sem, *])
  have f1_1 : w2.frozen? ⟨w1.heap.size, 1, none⟩ = false := (hb.frozen (by first | assumption | (simp; done) | (simp; omega) | omega)).trans (by simp [go_sem, *])
  have c1_2 : w2.cell? ⟨w1.heap.size, 2, none⟩ = some (.bool true) := (hb.cell (by first | assumption | (simp; done) | (simp; omega) | omega)).trans (by simp [go_sem, *])
  have f1_2 : w2.frozen? ⟨w1.heap.size, 2, none⟩ = false := (hb.frozen (by first | assumption | (simp; done) | (simp; omega) | omega)).trans (by simp [go_sem, *])
  have c1_3 : w2.cell? ⟨w1.heap.size, 3, none⟩ = some (.int .i64 n) := (hb.cell (by first | assumption | (simp; done) | (simp; omega) | omega)).trans (by simp [go_sem, *])
  have f1_3 : w2.frozen? ⟨w1.heap.size, 3, none⟩ = false := (hb.frozen (by first | assumption | (simp; done) | (simp; omega) | omega)).trans (by simp [go_sem, *])
  have z1 : w1.heap.size < w2.heap.size := Nat.lt_of_lt_of_le (by first | assumption | (simp; done) | (simp; omega) | omega) hb.size
  have hB_w2 : Below w.heap.size w w2 := bstep (by go_grown) hb
  have hs_w2 : w.heap.size ≤ w2.heap.size := hB_w2.size
  clear hb
  go_wp2_with fail
  refine (write_any _ _ _ _ _ _).mono ?_
  rintro e w3 ⟨rfl, hb⟩
  have c0_0 : w3.cell? ⟨w.heap.size, 0, none⟩ = some (.bool true) := (hb.cell (by first | assumption | (simp; done) | (simp; omega) | omega)).trans (by simp [go_sem, *])
  have f0_0 : w3.frozen? ⟨w.heap.size, 0, none⟩ = false := (hb.frozen (by first | assumption | (simp; done) | (simp; omega) | omega)).trans (by simp [go_sem, *])
  have c0_1 : w3.cell? ⟨w.heap.size, 1, none⟩ = some (.bool true) := (hb.cell (by first | assumption | (simp; done) | (simp; omega) | omega)).trans (by simp [go_sem, *])
  have f0_1 : w3.frozen? ⟨w.heap.size, 1, none⟩ = false := (hb.frozen (by first | assumption | (simp; done) | (simp; omega) | omega)).trans (by simp [go_sem, *])
  have c0_2 : w3.cell? ⟨w.heap.size, 2, none⟩ = some (.bool false) := (hb.cell (by first | assumption | (simp; done) | (simp; omega) | omega)).trans (by simp [go_sem, *])
  have f0_2 : w3.frozen? ⟨w.heap.size, 2, none⟩ = false := (hb.frozen (by first | assumption | (simp; done) | (simp; omega) | omega)).trans (by simp [go_sem, *])
  have c0_3 : w3.cell? ⟨w.heap.size, 3, none⟩ = some (.int .i64 n) := (hb.cell (by first | assumption | (simp; done) | (simp; omega) | omega)).trans (by simp [go_sem, *])
  have f0_3 : w3.frozen? ⟨w.heap.size, 3, none⟩ = false := (hb.frozen (by first | assumption | (simp; done) | (simp; omega) | omega)).trans (by simp [go_sem, *])
  have z0 : w.heap.size < w3.heap.size := Nat.lt_of_lt_of_le (by first | assumption | (simp; done) | (simp; omega) | omega) hb.size
  have c1_0 : w3.cell? ⟨w1.heap.size, 0, none⟩ = some (.bool true) := (hb.cell (by first | assumption | (simp; done) | (simp; omega) | omega)).trans (by simp [go_sem, *])
  have f1_0 : w3.frozen? ⟨w1.heap.size, 0, none⟩ = false := (hb.frozen (by first | assumption | (simp; done) | (simp; omega) | omega)).trans (by simp [go_sem, *])
  have c1_1 : w3.cell? ⟨w1.heap.size, 1, none⟩ = some (.bool false) := (hb.cell (by first | assumption | (simp; done) | (simp; omega) | omega)).trans (by simp [go_sem, *])
  have f1_1 : w3.frozen? ⟨w1.heap.size, 1, none⟩ = false := (hb.frozen (by first | assumption | (simp; done) | (simp; omega) | omega)).trans (by simp [go_sem, *])
  have c1_2 : w3.cell? ⟨w1.heap.size, 2, none⟩ = some (.bool true) := (hb.cell (by first | assumption | (simp; done) | (simp; omega) | omega)).trans (by simp [go_sem, *])
  have f1_2 : w3.frozen? ⟨w1.heap.size, 2, none⟩ = false := (hb.frozen (by first | assumption | (simp; done) | (simp; omega) | omega)).trans (by simp [go_sem, *])
  have c1_3 : w3.cell? ⟨w1.heap.size, 3, none⟩ = some (.int .i64 n) := (hb.cell (by first | assumption | (simp; done) | (simp; omega) | omega)).trans (by simp [go_sem, *])
  have f1_3 : w3.frozen? ⟨w1.heap.size, 3, none⟩ = false := (hb.frozen (by first | assumption | (simp; done) | (simp; omega) | omega)).trans (by simp [go_sem, *])
  have z1 : w1.heap.size < w3.heap.size := Nat.lt_of_lt_of_le (by first | assumption | (simp; done) | (simp; omega) | omega) hb.size
  have c2_0 : w3.cell? ⟨w2.heap.size, 0, none⟩ = some (.bool true) := (hb.cell (by first | assumption | (simp; done) | (simp; omega) | omega)).trans (by simp [go_sem, *])
  have f2_0 : w3.frozen? ⟨w2.heap.size, 0, none⟩ = false := (hb.frozen (by first | assumption | (simp; done) | (simp; omega) | omega)).trans (by simp [go_sem, *])
  have c2_1 : w3.cell? ⟨w2.heap.size, 1, none⟩ = some (.bool false) := (hb.cell (by first | assumption | (simp; done) | (simp; omega) | omega)).trans (by simp [go_sem, *])
  have f2_1 : w3.frozen? ⟨w2.heap.size, 1, none⟩ = false := (hb.frozen (by first | assumption | (simp; done) | (simp; omega) | omega)).trans (by simp [go_sem, *])
  have c2_2 : w3.cell? ⟨w2.heap.size, 2, none⟩ = some (.bool true) := (hb.cell (by first | assumption | (simp; done) | (simp; omega) | omega)).trans (by simp [go_sem, *])
  have f2_2 : w3.frozen? ⟨w2.heap.size, 2, none⟩ = false := (hb.frozen (by first | assumption | (simp; done) | (simp; omega) | omega)).trans (by simp [go_sem, *])
  have c2_3 : w3.cell? ⟨w2.heap.size, 3, none⟩ = some (.int .i64 n) := (hb.cell (by first | assumption | (simp; done) | (simp; omega) | omega)).trans (by simp [go_sem, *])
  have f2_3 : w3.frozen? ⟨w2.heap.size, 3, none⟩ = false := (hb.frozen (by first | assumption | (simp; done) | (simp; omega) | omega)).trans (by simp [go_sem, *])
  have z2 : w2.heap.size < w3.heap.size := Nat.lt_of_lt_of_le (by first | assumption | (simp; done) | (simp; omega) | omega) hb.size
  have hB_w3 : Below w.heap.size w w3 := bstep (by go_grown) hb
  have hs_w3 : w.heap.size ≤ w3.heap.size := hB_w3.size
  clear hb
  go_wp2_with fail
  refine (set_yes _ _ _ _ _ _ _ e3).mono ?_
  rintro e w4 ⟨rfl, hb⟩
  have c0_0 : w4.cell? ⟨w.heap.size, 0, none⟩ = some (.bool true) := (hb.cell (by first | assumption | (simp; done) | (simp; omega) | omega)).trans (by simp [go_sem, *])
  have f0_0 : w4.frozen? ⟨w.heap.size, 0, none⟩ = false := (hb.frozen (by first | assumption | (simp; done) | (simp; omega) | omega)).trans (by simp [go_sem, *])
  have c0_1 : w4.cell? ⟨w.heap.size, 1, none⟩ = some (.bool true) := (hb.cell (by first | assumption | (simp; done) | (simp; omega) | omega)).trans (by simp [go_sem, *])
  have f0_1 : w4.frozen? ⟨w.heap.size, 1, none⟩ = false := (hb.frozen (by first | assumption | (simp; done) | (simp; omega) | omega)).trans (by simp [go_sem, *])
  have c0_2 : w4.cell? ⟨w.heap.size, 2, none⟩ = some (.bool false) := (hb.cell (by first | assumption | (simp; done) | (simp; omega) | omega)).trans (by simp [go_sem, *])
  have f0_2 : w4.frozen? ⟨w.heap.size, 2, none⟩ = false := (hb.frozen (by first | assumption | (simp; done) | (simp; omega) | omega)).trans (by simp [go_sem, *])
  have c0_3 : w4.cell? ⟨w.heap.size, 3, none⟩ = some (.int .i64 n) := (hb.cell (by first | assumption | (simp; done) | (simp; omega) | omega)).trans (by simp [go_sem, *])
  have f0_3 : w4.frozen? ⟨w.heap.size, 3, none⟩ = false := (hb.frozen (by first | assumption | (simp; done) | (simp; omega) | omega)).trans (by simp [go_sem, *])
  have z0 : w.heap.size < w4.heap.size := Nat.lt_of_lt_of_le (by first | assumption | (simp; done) | (simp; omega) | omega) hb.size
  have c1_0 : w4.cell? ⟨w1.heap.size, 0, none⟩ = some (.bool true) := (hb.cell (by first | assumption | (simp; done) | (simp; omega) | omega)).trans (by simp [go_sem, *])
  have f1_0 : w4.frozen? ⟨w1.heap.size, 0, none⟩ = false := (hb.frozen (by first | assumption | (simp; done) | (simp; omega) | omega)).trans (by simp [go_sem, *])
  have c1_1 : w4.cell? ⟨w1.heap.size, 1, none⟩ = some (.bool false) := (hb.cell (by first | assumption | (simp; done) | (simp; omega) | omega)).trans (by simp [go_sem, *])
  have f1_1 : w4.frozen? ⟨w1.heap.size, 1, none⟩ = false := (hb.frozen (by first | assumption | (simp; done) | (simp; omega) | omega)).trans (by simp [go_sem, *])
  have c1_2 : w4.cell? ⟨w1.heap.size, 2, none⟩ = some (.bool true) := (hb.cell (by first | assumption | (simp; done) | (simp; omega) | omega)).trans (by simp [go_sem, *])
  have f1_2 : w4.frozen? ⟨w1.heap.size, 2, none⟩ = false := (hb.frozen (by first | assumption | (simp; done) | (simp; omega) | omega)).trans (by simp [go_sem, *])
  have c1_3 : w4.cell? ⟨w1.heap.size, 3, none⟩ = some (.int .i64 n) := (hb.cell (by first | assumption | (simp; done) | (simp; omega) | omega)).trans (by simp [go_sem, *])
  have f1_3 : w4.frozen? ⟨w1.heap.size, 3, none⟩ = false := (hb.frozen (by first | assumption | (simp; done) | (simp; omega) | omega)).trans (by simp [go_sem, *])
  have z1 : w1.heap.size < w4.heap.size := Nat.lt_of_lt_of_le (by first | assumption | (simp; done) | (simp; omega) | omega) hb.size
  have c2_0 : w4.cell? ⟨w2.heap.size, 0, none⟩ = some (.bool true) := (hb.cell (by first | assumption | (simp; done) | (simp; omega) | omega)).trans (by simp [go_sem, *])
  have f2_0 : w4.frozen? ⟨w2.heap.size, 0, none⟩ = false := (hb.frozen (by first | assumption | (simp; done) | (simp; omega) | omega)).trans (by simp [go_sem, *])
  have c2_1 : w4.cell? ⟨w2.heap.size, 1, none⟩ = some (.bool false) := (hb.cell (by first | assumption | (simp; done) | (simp; omega) | omega)).trans (by simp [go_sem, *])
  have f2_1 : w4.frozen? ⟨w2.heap.size, 1, none⟩ = false := (hb.frozen (by first | assumption | (simp; done) | (simp; omega) | omega)).trans (by simp [go_sem, *])
  have c2_2 : w4.cell? ⟨w2.heap.size, 2, none⟩ = some (.bool true) := (hb.cell (by first | assumption | (simp; done) | (simp; omega) | omega)).trans (by simp [go_sem, *])
  have f2_2 : w4.frozen? ⟨w2.heap.size, 2, none⟩ = false := (hb.frozen (by first | assumption | (simp; done) | (simp; omega) | omega)).trans (by simp [go_sem, *])
  have c2_3 : w4.cell? ⟨w2.heap.size, 3, none⟩ = some (.int .i64 n) := (hb.cell (by first | assumption | (simp; done) | (simp; omega) | omega)).trans (by simp [go_sem, *])
  have f2_3 : w4.frozen? ⟨w2.heap.size, 3, none⟩ = false := (hb.frozen (by first | assumption | (simp; done) | (simp; omega) | omega)).trans (by simp [go_sem, *])
  have z2 : w2.heap.size < w4.heap.size := Nat.lt_of_lt_of_le (by first | assumption | (simp; done) | (simp; omega) | omega) hb.size
  have hB_w4 : Below w.heap.size w w4 := bstep (by go_grown) hb
  have hs_w4 : w.heap.size ≤ w4.heap.size := hB_w4.size
  clear hb
  go_wp2_with fail
  refine (write_any _ _ _ _ _ _).mono ?_
  rintro e w5 ⟨rfl, hb⟩
  have c0_0 : w5.cell? ⟨w.heap.size, 0, none⟩ = some (.bool true) := (hb.cell (by first | assumption | (simp; done) | (simp; omega) | omega)).trans (by simp [go_sem, *])
  have f0_0 : w5.frozen? ⟨w.heap.size, 0, none⟩ = false := (hb.frozen (by first | assumption | (simp; done) | (simp; omega) | omega)).trans (by simp [go_sem, *])
  have c0_1 : w5.cell? ⟨w.heap.size, 1, none⟩ = some (.bool true) := (hb.cell (by first | assumption | (simp; done) | (simp; omega) | omega)).trans (by simp [go_sem, *])
  have f0_1 : w5.frozen? ⟨w.heap.size, 1, none⟩ = false := (hb.frozen (by first | assumption | (simp; done) | (simp; omega) | omega)).trans (by simp [go_sem, *])
  have c0_2 : w5.cell? ⟨w.heap.size, 2, none⟩ = some (.bool false) := (hb.cell (by first | assumption | (simp; done) | (simp; omega) | omega)).trans (by simp [go_sem, *])
  have f0_2 : w5.frozen? ⟨w.heap.size, 2, none⟩ = false := (hb.frozen (by first | assumption | (simp; done) | (simp; omega) | omega)).trans (by simp [go_sem, *])
  have c0_3 : w5.cell? ⟨w.heap.size, 3, none⟩ = some (.int .i64 n) := (hb.cell (by first | assumption | (simp; done) | (simp; omega) | omega)).trans (by simp [go_sem, *])
  have f0_3 : w5.frozen? ⟨w.heap.size, 3, none⟩ = false := (hb.frozen (by first | assumption | (simp; done) | (simp; omega) | omega)).trans (by simp [go_sem, *])
  have z0 : w.heap.size < w5.heap.size := Nat.lt_of_lt_of_le (by first | assumption | (simp; done) | (simp; omega) | omega) hb.size
  have c1_0 : w5.cell? ⟨w1.heap.size, 0, none⟩ = some (.bool true) := (hb.cell (by first | assumption | (simp; done) | (simp; omega) | omega)).trans (by simp [go_sem, *])
  have f1_0 : w5.frozen? ⟨w1.heap.size, 0, none⟩ = false := (hb.frozen (by first | assumption | (simp; done) | (simp; omega) | omega)).trans (by simp [go_sem, *])
  have c1_1 : w5.cell? ⟨w1.heap.size, 1, none⟩ = some (.bool false) := (hb.cell (by first | assumption | (simp; done) | (simp; omega) | omega)).trans (by simp [go_sem, *])
  have f1_1 : w5.frozen? ⟨w1.heap.size, 1, none⟩ = false := (hb.frozen (by first | assumption | (simp; done) | (simp; omega) | omega)).trans (by simp [go_sem, *])
  have c1_2 : w5.cell? ⟨w1.heap.size, 2, none⟩ = some (.bool true) := (hb.cell (by first | assumption | (simp; done) | (simp; omega) | omega)).trans (by simp [go_sem, *])
  have f1_2 : w5.frozen? ⟨w1.heap.size, 2, none⟩ = false := (hb.frozen (by first | assumption | (simp; done) | (simp; omega) | omega)).trans (by simp [go_sem, *])
  have c1_3 : w5.cell? ⟨w1.heap.size, 3, none⟩ = some (.int .i64 n) := (hb.cell (by first | assumption | (simp; done) | (simp; omega) | omega)).trans (by simp [go_sem, *])
  have f1_3 : w5.frozen? ⟨w1.heap.size, 3, none⟩ = false := (hb.frozen (by first | assumption | (simp; done) | (simp; omega) | omega)).trans (by simp [go_sem, *])
  have z1 : w1.heap.size < w5.heap.size := Nat.lt_of_lt_of_le (by first | assumption | (simp; done) | (simp; omega) | omega) hb.size
  have c2_0 : w5.cell? ⟨w2.heap.size, 0, none⟩ = some (.bool true) := (hb.cell (by first | assumption | (simp; done) | (simp; omega) | omega)).trans (by simp [go_sem, *])
  have f2_0 : w5.frozen? ⟨w2.heap.size, 0, none⟩ = false := (hb.frozen (by first | assumption | (simp; done) | (simp; omega) | omega)).trans (by simp [go_sem, *])
  have c2_1 : w5.cell? ⟨w2.heap.size, 1, none⟩ = some (.bool false) := (hb.cell (by first | assumption | (simp; done) | (simp; omega) | omega)).trans (by simp [go_sem, *])
  have f2_1 : w5.frozen? ⟨w2.heap.size, 1, none⟩ = false := (hb.frozen (by first | assumption | (simp; done) | (simp; omega) | omega)).trans (by simp [go_sem, *])
  have c2_2 : w5.cell? ⟨w2.heap.size, 2, none⟩ = some (.bool true) := (hb.cell (by first | assumption | (simp; done) | (simp; omega) | omega)).trans (by simp [go_sem, *])
  have f2_2 : w5.frozen? ⟨w2.heap.size, 2, none⟩ = false := (hb.frozen (by first | assumption | (simp; done) | (simp; omega) | omega)).trans (by simp [go_sem, *])
  have c2_3 : w5.cell? ⟨w2.heap.size, 3, none⟩ = some (.int .i64 n) := (hb.cell (by first | assumption | (simp; done) | (simp; omega) | omega)).trans (by simp [go_sem, *])
  have f2_3 : w5.frozen? ⟨w2.heap.size, 3, none⟩ = false := (hb.frozen (by first | assumption | (simp; done) | (simp; omega) | omega)).trans (by simp [go_sem, *])
  have z2 : w2.heap.size < w5.heap.size := Nat.lt_of_lt_of_le (by first | assumption | (simp; done) | (simp; omega) | omega) hb.size
  have c3_0 : w5.cell? ⟨w4.heap.size, 0, none⟩ = some (.bool true) := (hb.cell (by first | assumption | (simp; done) | (simp; omega) | omega)).trans (by simp [go_sem, *])
  have f3_0 : w5.frozen? ⟨w4.heap.size, 0, none⟩ = false := (hb.frozen (by first | assumption | (simp; done) | (simp; omega) | omega)).trans (by simp [go_sem, *])
  have c3_1 : w5.cell? ⟨w4.heap.size, 1, none⟩ = some (.bool true) := (hb.cell (by first | assumption | (simp; done) | (simp; omega) | omega)).trans (by simp [go_sem, *])
  have f3_1 : w5.frozen? ⟨w4.heap.size, 1, none⟩ = false := (hb.frozen (by first | assumption | (simp; done) | (simp; omega) | omega)).trans (by simp [go_sem, *])
  have c3_2 : w5.cell? ⟨w4.heap.size, 2, none⟩ = some (.bool false) := (hb.cell (by first | assumption | (simp; done) | (simp; omega) | omega)).trans (by simp [go_sem, *])
  have f3_2 : w5.frozen? ⟨w4.heap.size, 2, none⟩ = false := (hb.frozen (by first | assumption | (simp; done) | (simp; omega) | omega)).trans (by simp [go_sem, *])
  have c3_3 : w5.cell? ⟨w4.heap.size, 3, none⟩ = some (.int .i64 n) := (hb.cell (by first | assumption | (simp; done) | (simp; omega) | omega)).trans (by simp [go_sem, *])
  have f3_3 : w5.frozen? ⟨w4.heap.size, 3, none⟩ = false := (hb.frozen (by first | assumption | (simp; done) | (simp; omega) | omega)).trans (by simp [go_sem, *])
  have z3 : w4.heap.size < w5.heap.size := Nat.lt_of_lt_of_le (by first | assumption | (simp; done) | (simp; omega) | omega) hb.size
  have hB_w5 : Below w.heap.size w w5 := bstep (by go_grown) hb
  have hs_w5 : w.heap.size ≤ w5.heap.size := hB_w5.size
  clear hb
  go_wp2_with fail
  refine (awake_any _).mono ?_
  rintro e w9 ⟨rfl, hb⟩
  go_wp2
  go_returns
  exact ⟨by simp_all, bstep (by go_grown) hb⟩
set_option maxHeartbeats 2000000 in
theorem never_tf_one_f (n : Int) (w : World) (h1 : 0 ≤ n) (h2 : n < 1024) :
    Calls Try.prog 6 #[.agg #[.bool true, .bool true, .bool false, .int .i64 n], .int .i64 1, .bool false] w fun e w' => e = .returned (.bool true) ∧ Below w.heap.size w w' := by
  have e1 : fin true true false n 1 = true := fin_mk h1 h2 rfl (by omega)
  have e2 : fin true false true n 1 = true := fin_mk h1 h2 rfl (by omega)
  have e4 : fin true false true n 1 = true := fin_mk h1 h2 rfl (by omega)
  have g1 : wr true false true n 1 = 2 := by rw [wr_of e4]; simp
  have g2 : wrE true false true n 1 = 0 := by rw [wrE_of e4]; simp
  have n2 : ((false : Bool) || true) = true := rfl
  have e3 : fin true true false n 1 = true := fin_mk h1 h2 rfl (by omega)
  have e5 : fin true false false n 1 = true := fin_mk h1 h2 rfl (by omega)
  have g3 : wr true false false n 1 = 0 := by rw [wr_of e5]; simp
  have g4 : wrE true false false n 1 = 8 := by rw [wrE_of e5]; simp
  go_enter Try.func6, Try.ntmps6
  go_wp2_with fail
  refine (fork_yes _ _ _ _ _ e1).mono ?_
  rintro e w1 ⟨rfl, hb⟩
  have c0_0 : w1.cell? ⟨w.heap.size, 0, none⟩ = some (.bool true) := (hb.cell (by first | assumption | (simp; done) | (simp; omega) | omega)).trans (by simp [go_sem, *])
  have f0_0 : w1.frozen? ⟨w.heap.size, 0, none⟩ = false := (hb.frozen (by first | assumption | (simp; done) | (simp; omega) | omega)).trans (by simp [go_sem, *])
  have c0_1 : w1.cell? ⟨w.heap.size, 1, none⟩ = some (.bool true) := (hb.cell (by first | assumption | (simp; done) | (simp; omega) | omega)).trans (by simp [go_sem, *])
  have f0_1 : w1.frozen? ⟨w.heap.size, 1, none⟩ = false := (hb.frozen (by first | assumption | (simp; done) | (simp; omega) | omega)).trans (by simp [go_sem, *])
  have c0_2 : w1.cell? ⟨w.heap.size, 2, none⟩ = some (.bool false) := (hb.cell (by first | assumption | (simp; done) | (simp; omega) | omega)).trans (by simp [go_sem, *])
  have f0_2 : w1.frozen? ⟨w.heap.size, 2, none⟩ = false := (hb.frozen (by first | assumption | (simp; done) | (simp; omega) | omega)).trans (by simp [go_sem, *])
  have c0_3 : w1.cell? ⟨w.heap.size, 3, none⟩ = some (.int .i64 n) := (hb.cell (by first | assumption | (simp; done) | (simp; omega) | omega)).trans (by simp [go_sem, *])
  have f0_3 : w1.frozen? ⟨w.heap.size, 3, none⟩ = false := (hb.frozen (by first | assumption | (simp; done) | (simp; omega) | omega)).trans (by simp [go_sem, *])
  have z0 : w.heap.size < w1.heap.size := Nat.lt_of_lt_of_le (by first | assumption | (simp; done) | (simp; omega) | omega) hb.size
  have hB_w1 : Below w.heap.size w w1 := bstep (by go_grown) hb
  have hs_w1 : w.heap.size ≤ w1.heap.size := hB_w1.size
  clear hb
  go_wp2_with fail
  refine (fork_yes _ _ _ _ _ e2).mono ?_
  rintro e w2 ⟨rfl, hb⟩
  have c0_0 : w2.cell? ⟨w.heap.size, 0, none⟩ = some (.bool true) := (hb.cell (by first | assumption | (simp; done) | (simp; omega) | omega)).trans (by simp [go_sem, *])
  have f0_0 : w2.frozen? ⟨w.heap.size, 0, none⟩ = false := (hb.frozen (by first | assumption | (simp; done) | (simp; omega) | omega)).trans (by simp [go_sem, *])
  have c0_1 : w2.cell? ⟨w.heap.size, 1, none⟩ = some (.bool true) := (hb.cell (by first | assumption | (simp; done) | (simp; omega) | omega)).trans (by simp [go_sem, *])
  have f0_1 : w2.frozen? ⟨w.heap.size, 1, none⟩ = false := (hb.frozen (by first | assumption | (simp; done) | (simp; omega) | omega)).trans (by simp [go_sem, *])
  have c0_2 : w2.cell? ⟨w.heap.size, 2, none⟩ = some (.bool false) := (hb.cell (by first | assumption | (simp; done) | (simp; omega) | omega)).trans (by simp [go_sem, *])
  have f0_2 : w2.frozen? ⟨w.heap.size, 2, none⟩ = false := (hb.frozen (by first | assumption | (simp; done) | (simp; omega) | omega)).trans (by simp [go_sem, *])
  have c0_3 : w2.cell? ⟨w.heap.size, 3, none⟩ = some (.int .i64 n) := (hb.cell (by first | assumption | (simp; done) | (simp; omega) | omega)).trans (by simp [go_sem, *])
  have f0_3 : w2.frozen? ⟨w.heap.size, 3, none⟩ = false := (hb.frozen (by first | assumption | (simp; done) | (simp; omega) | omega)).trans (by simp [go_sem, *])
  have z0 : w.heap.size < w2.heap.size := Nat.lt_of_lt_of_le (by first | assumption | (simp; done) | (simp; omega) | omega) hb.size
  have c1_0 : w2.cell? ⟨w1.heap.size, 0, none⟩ = some (.bool true) := (hb.cell (by first | assumption | (simp; done) | (simp; omega) | omega)).trans (by simp [go_sem, *])
  have f1_0 : w2.frozen? ⟨w1.heap.size, 0, none⟩ = false := (hb.frozen (by first | assumption | (simp; done) | (simp; omega) | omega)).trans (by simp [go_sem, *])
  have c1_1 : w2.cell? ⟨w1.heap.size, 1, none⟩ = some (.bool false) := (hb.cell (by first | assumption | (simp; done) | (simp; omega) | omega)).trans (by simp [go_sem, *])
  have f1_1 : w2.frozen? ⟨w1.heap.size, 1, none⟩ = false := (hb.frozen (by first | assumption | (simp; done) | (simp; omega) | omega)).trans (by simp [go_sem, *])
  have c1_2 : w2.cell? ⟨w1.heap.size, 2, none⟩ = some (.bool true) := (hb.cell (by first | assumption | (simp; done) | (simp; omega) | omega)).trans (by simp [go_sem, *])
  have f1_2 : w2.frozen? ⟨w1.heap.size, 2, none⟩ = false := (hb.frozen (by first | assumption | (simp; done) | (simp; omega) | omega)).trans (by simp [go_sem, *])
  have c1_3 : w2.cell? ⟨w1.heap.size, 3, none⟩ = some (.int .i64 n) := (hb.cell (by first | assumption | (simp; done) | (simp; omega) | omega)).trans (by simp [go_sem, *])
  have f1_3 : w2.frozen? ⟨w1.heap.size, 3, none⟩ = false := (hb.frozen (by first | assumption | (simp; done) | (simp; omega) | omega)).trans (by simp [go_sem, *])
  have z1 : w1.heap.size < w2.heap.size := Nat.lt_of_lt_of_le (by first | assumption | (simp; done) | (simp; omega) | omega) hb.size
  have hB_w2 : Below w.heap.size w w2 := bstep (by go_grown) hb
  have hs_w2 : w.heap.size ≤ w2.heap.size := hB_w2.size
  clear hb
  go_wp2_with fail
  refine (write_any _ _ _ _ _ _).mono ?_
  rintro e w3 ⟨rfl, hb⟩
  have c0_0 : w3.cell? ⟨w.heap.size, 0, none⟩ = some (.bool true) := (hb.cell (by first | assumption | (simp; done) | (simp; omega) | omega)).trans (by simp [go_sem, *])
  have f0_0 : w3.frozen? ⟨w.heap.size, 0, none⟩ = false := (hb.frozen (by first | assumption | (simp; done) | (simp; omega) | omega)).trans (by simp [go_sem, *])
  have c0_1 : w3.cell? ⟨w.heap.size, 1, none⟩ = some (.bool true) := (hb.cell (by first | assumption | (simp; done) | (simp; omega) | omega)).trans (by simp [go_sem, *])
  have f0_1 : w3.frozen? ⟨w.heap.size, 1, none⟩ = false := (hb.frozen (by first | assumption | (simp; done) | (simp; omega) | omega)).trans (by simp [go_sem, *])
  have c0_2 : w3.cell? ⟨w.heap.size, 2, none⟩ = some (.bool false) := (hb.cell (by first | assumption | (simp; done) | (simp; omega) | omega)).trans (by simp [go_sem, *])
  have f0_2 : w3.frozen? ⟨w.heap.size, 2, none⟩ = false := (hb.frozen (by first | assumption | (simp; done) | (simp; omega) | omega)).trans (by simp [go_sem, *])
  have c0_3 : w3.cell? ⟨w.heap.size, 3, none⟩ = some (.int .i64 n) := (hb.cell (by first | assumption | (simp; done) | (simp; omega) | omega)).trans (by simp [go_sem, *])
  have f0_3 : w3.frozen? ⟨w.heap.size, 3, none⟩ = false := (hb.frozen (by first | assumption | (simp; done) | (simp; omega) | omega)).trans (by simp [go_sem, *])
  have z0 : w.heap.size < w3.heap.size := Nat.lt_of_lt_of_le (by first | assumption | (simp; done) | (simp; omega) | omega) hb.size
  have c1_0 : w3.cell? ⟨w1.heap.size, 0, none⟩ = some (.bool true) := (hb.cell (by first | assumption | (simp; done) | (simp; omega) | omega)).trans (by simp [go_sem, *])
  have f1_0 : w3.frozen? ⟨w1.heap.size, 0, none⟩ = false := (hb.frozen (by first | assumption | (simp; done) | (simp; omega) | omega)).trans (by simp [go_sem, *])
  have c1_1 : w3.cell? ⟨w1.heap.size, 1, none⟩ = some (.bool false) := (hb.cell (by first | assumption | (simp; done) | (simp; omega) | omega)).trans (by simp [go_sem, *])
  have f1_1 : w3.frozen? ⟨w1.heap.size, 1, none⟩ = false := (hb.frozen (by first | assumption | (simp; done) | (simp; omega) | omega)).trans (by simp [go_sem, *])
  have c1_2 : w3.cell? ⟨w1.heap.size, 2, none⟩ = some (.bool true) := (hb.cell (by first | assumption | (simp; done) | (simp; omega) | omega)).trans (by simp [go_sem, *])
  have f1_2 : w3.frozen? ⟨w1.heap.size, 2, none⟩ = false := (hb.frozen (by first | assumption | (simp; done) | (simp; omega) | omega)).trans (by simp [go_sem, *])
  have c1_3 : w3.cell? ⟨w1.heap.size, 3, none⟩ = some (.int .i64 n) := (hb.cell (by first | assumption | (simp; done) | (simp; omega) | omega)).trans (by simp [go_sem, *])
  have f1_3 : w3.frozen? ⟨w1.heap.size, 3, none⟩ = false := (hb.frozen (by first | assumption | (simp; done) | (simp; omega) | omega)).trans (by simp [go_sem, *])
  have z1 : w1.heap.size < w3.heap.size := Nat.lt_of_lt_of_le (by first | assumption | (simp; done) | (simp; omega) | omega) hb.size
  have c2_0 : w3.cell? ⟨w2.heap.size, 0, none⟩ = some (.bool true) := (hb.cell (by first | assumption | (simp; done) | (simp; omega) | omega)).trans (by simp [go_sem, *])
  have f2_0 : w3.frozen? ⟨w2.heap.size, 0, none⟩ = false := (hb.frozen (by first | assumption | (simp; done) | (simp; omega) | omega)).trans (by simp [go_sem, *])
  have c2_1 : w3.cell? ⟨w2.heap.size, 1, none⟩ = some (.bool false) := (hb.cell (by first | assumption | (simp; done) | (simp; omega) | omega)).trans (by simp [go_sem, *])
  have f2_1 : w3.frozen? ⟨w2.heap.size, 1, none⟩ = false := (hb.frozen (by first | assumption | (simp; done) | (simp; omega) | omega)).trans (by simp [go_sem, *])
  have c2_2 : w3.cell? ⟨w2.heap.size, 2, none⟩ = some (.bool true) := (hb.cell (by first | assumption | (simp; done) | (simp; omega) | omega)).trans (by simp [go_sem, *])
  have f2_2 : w3.frozen? ⟨w2.heap.size, 2, none⟩ = false := (hb.frozen (by first | assumption | (simp; done) | (simp; omega) | omega)).trans (by simp [go_sem, *])
  have c2_3 : w3.cell? ⟨w2.heap.size, 3, none⟩ = some (.int .i64 n) := (hb.cell (by first | assumption | (simp; done) | (simp; omega) | omega)).trans (by simp [go_sem, *])
  have f2_3 : w3.frozen? ⟨w2.heap.size, 3, none⟩ = false := (hb.frozen (by first | assumption | (simp; done) | (simp; omega) | omega)).trans (by simp [go_sem, *])
  have z2 : w2.heap.size < w3.heap.size := Nat.lt_of_lt_of_le (by first | assumption | (simp; done) | (simp; omega) | omega) hb.size
  have hB_w3 : Below w.heap.size w w3 := bstep (by go_grown) hb
  have hs_w3 : w.heap.size ≤ w3.heap.size := hB_w3.size
  clear hb
  go_wp2_with fail
  refine (set_yes _ _ _ _ _ _ _ e3).mono ?_
  rintro e w4 ⟨rfl, hb⟩
  have c0_0 : w4.cell? ⟨w.heap.size, 0, none⟩ = some (.bool true) := (hb.cell (by first | assumption | (simp; done) | (simp; omega) | omega)).trans (by simp [go_sem, *])
  have f0_0 : w4.frozen? ⟨w.heap.size, 0, none⟩ = false := (hb.frozen (by first | assumption | (simp; done) | (simp; omega) | omega)).trans (by simp [go_sem, *])
  have c0_1 : w4.cell? ⟨w.heap.size, 1, none⟩ = some (.bool true) := (hb.cell (by first | assumption | (simp; done) | (simp; omega) | omega)).trans (by simp [go_sem, *])
  have f0_1 : w4.frozen? ⟨w.heap.size, 1, none⟩ = false := (hb.frozen (by first | assumption | (simp; done) | (simp; omega) | omega)).trans (by simp [go_sem, *])
  have c0_2 : w4.cell? ⟨w.heap.size, 2, none⟩ = some (.bool false) := (hb.cell (by first | assumption | (simp; done) | (simp; omega) | omega)).trans (by simp [go_sem, *])
  have f0_2 : w4.frozen? ⟨w.heap.size, 2, none⟩ = false := (hb.frozen (by first | assumption | (simp; done) | (simp; omega) | omega)).trans (by simp [go_sem, *])
  have c0_3 : w4.cell? ⟨w.heap.size, 3, none⟩ = some (.int .i64 n) := (hb.cell (by first | assumption | (simp; done) | (simp; omega) | omega)).trans (by simp [go_sem, *])
  have f0_3 : w4.frozen? ⟨w.heap.size, 3, none⟩ = false := (hb.frozen (by first | assumption | (simp; done) | (simp; omega) | omega)).trans (by simp [go_sem, *])
  have z0 : w.heap.size < w4.heap.size := Nat.lt_of_lt_of_le (by first | assumption | (simp; done) | (simp; omega) | omega) hb.size
  have c1_0 : w4.cell? ⟨w1.heap.size, 0, none⟩ = some (.bool true) := (hb.cell (by first | assumption | (simp; done) | (simp; omega) | omega)).trans (by simp [go_sem, *])
  have f1_0 : w4.frozen? ⟨w1.heap.size, 0, none⟩ = false := (hb.frozen (by first | assumption | (simp; done) | (simp; omega) | omega)).trans (by simp [go_sem, *])
  have c1_1 : w4.cell? ⟨w1.heap.size, 1, none⟩ = some (.bool false) := (hb.cell (by first | assumption | (simp; done) | (simp; omega) | omega)).trans (by simp [go_sem, *])
  have f1_1 : w4.frozen? ⟨w1.heap.size, 1, none⟩ = false := (hb.frozen (by first | assumption | (simp; done) | (simp; omega) | omega)).trans (by simp [go_sem, *])
  have c1_2 : w4.cell? ⟨w1.heap.size, 2, none⟩ = some (.bool true) := (hb.cell (by first | assumption | (simp; done) | (simp; omega) | omega)).trans (by simp [go_sem, *])
  have f1_2 : w4.frozen? ⟨w1.heap.size, 2, none⟩ = false := (hb.frozen (by first | assumption | (simp; done) | (simp; omega) | omega)).trans (by simp [go_sem, *])
  have c1_3 : w4.cell? ⟨w1.heap.size, 3, none⟩ = some (.int .i64 n) := (hb.cell (by first | assumption | (simp; done) | (simp; omega) | omega)).trans (by simp [go_sem, *])
  have f1_3 : w4.frozen? ⟨w1.heap.size, 3, none⟩ = false := (hb.frozen (by first | assumption | (simp; done) | (simp; omega) | omega)).trans (by simp [go_sem, *])
  have z1 : w1.heap.size < w4.heap.size := Nat.lt_of_lt_of_le (by first | assumption | (simp; done) | (simp; omega) | omega) hb.size
  have c2_0 : w4.cell? ⟨w2.heap.size, 0, none⟩ = some (.bool true) := (hb.cell (by first | assumption | (simp; done) | (simp; omega) | omega)).trans (by simp [go_sem, *])
  have f2_0 : w4.frozen? ⟨w2.heap.size, 0, none⟩ = false := (hb.frozen (by first | assumption | (simp; done) | (simp; omega) | omega)).trans (by simp [go_sem, *])
  have c2_1 : w4.cell? ⟨w2.heap.size, 1, none⟩ = some (.bool false) := (hb.cell (by first | assumption | (simp; done) | (simp; omega) | omega)).trans (by simp [go_sem, *])
  have f2_1 : w4.frozen? ⟨w2.heap.size, 1, none⟩ = false := (hb.frozen (by first | assumption | (simp; done) | (simp; omega) | omega)).trans (by simp [go_sem, *])
  have c2_2 : w4.cell? ⟨w2.heap.size, 2, none⟩ = some (.bool true) := (hb.cell (by first | assumption | (simp; done) | (simp; omega) | omega)).trans (by simp [go_sem, *])
  have f2_2 : w4.frozen? ⟨w2.heap.size, 2, none⟩ = false := (hb.frozen (by first | assumption | (simp; done) | (simp; omega) | omega)).trans (by simp [go_sem, *])
  have c2_3 : w4.cell? ⟨w2.heap.size, 3, none⟩ = some (.int .i64 n) := (hb.cell (by first | assumption | (simp; done) | (simp; omega) | omega)).trans (by simp [go_sem, *])
  have f2_3 : w4.frozen? ⟨w2.heap.size, 3, none⟩ = false := (hb.frozen (by first | assumption | (simp; done) | (simp; omega) | omega)).trans (by simp [go_sem, *])
  have z2 : w2.heap.size < w4.heap.size := Nat.lt_of_lt_of_le (by first | assumption | (simp; done) | (simp; omega) | omega) hb.size
  have hB_w4 : Below w.heap.size w w4 := bstep (by go_grown) hb
  have hs_w4 : w.heap.size ≤ w4.heap.size := hB_w4.size
  clear hb
  go_wp2_with fail
  refine (write_any _ _ _ _ _ _).mono ?_
  rintro e w5 ⟨rfl, hb⟩
  have c0_0 : w5.cell? ⟨w.heap.size, 0, none⟩ = some (.bool true) := (hb.cell (by first | assumption | (simp; done) | (simp; omega) | omega)).trans (by simp [go_sem, *])
  have f0_0 : w5.frozen? ⟨w.heap.size, 0, none⟩ = false := (hb.frozen (by first | assumption | (simp; done) | (simp; omega) | omega)).trans (by simp [go_sem, *])
  have c0_1 : w5.cell? ⟨w.heap.size, 1, none⟩ = some (.bool true) := (hb.cell (by first | assumption | (simp; done) | (simp; omega) | omega)).trans (by simp [go_sem, *])
  have f0_1 : w5.frozen? ⟨w.heap.size, 1, none⟩ = false := (hb.frozen (by first | assumption | (simp; done) | (simp; omega) | omega)).trans (by simp [go_sem, *])
  have c0_2 : w5.cell? ⟨w.heap.size, 2, none⟩ = some (.bool false) := (hb.cell (by first | assumption | (simp; done) | (simp; omega) | omega)).trans (by simp [go_sem, *])
  have f0_2 : w5.frozen? ⟨w.heap.size, 2, none⟩ = false := (hb.frozen (by first | assumption | (simp; done) | (simp; omega) | omega)).trans (by simp [go_sem, *])
  have c0_3 : w5.cell? ⟨w.heap.size, 3, none⟩ = some (.int .i64 n) := (hb.cell (by first | assumption | (simp; done) | (simp; omega) | omega)).trans (by simp [go_sem, *])
  have f0_3 : w5.frozen? ⟨w.heap.size, 3, none⟩ = false := (hb.frozen (by first | assumption | (simp; done) | (simp; omega) | omega)).trans (by simp [go_sem, *])
  have z0 : w.heap.size < w5.heap.size := Nat.lt_of_lt_of_le (by first | assumption | (simp; done) | (simp; omega) | omega) hb.size
  have c1_0 : w5.cell? ⟨w1.heap.size, 0, none⟩ = some (.bool true) := (hb.cell (by first | assumption | (simp; done) | (simp; omega) | omega)).trans (by simp [go_sem, *])
  have f1_0 : w5.frozen? ⟨w1.heap.size, 0, none⟩ = false := (hb.frozen (by first | assumption | (simp; done) | (simp; omega) | omega)).trans (by simp [go_sem, *])
  have c1_1 : w5.cell? ⟨w1.heap.size, 1, none⟩ = some (.bool false) := (hb.cell (by first | assumption | (simp; done) | (simp; omega) | omega)).trans (by simp [go_sem, *])
  have f1_1 : w5.frozen? ⟨w1.heap.size, 1, none⟩ = false := (hb.frozen (by first | assumption | (simp; done) | (simp; omega) | omega)).trans (by simp [go_sem, *])
  have c1_2 : w5.cell? ⟨w1.heap.size, 2, none⟩ = some (.bool true) := (hb.cell (by first | assumption | (simp; done) | (simp; omega) | omega)).trans (by simp [go_sem, *])
  have f1_2 : w5.frozen? ⟨w1.heap.size, 2, none⟩ = false := (hb.frozen (by first | assumption | (simp; done) | (simp; omega) | omega)).trans (by simp [go_sem, *])
  have c1_3 : w5.cell? ⟨w1.heap.size, 3, none⟩ = some (.int .i64 n) := (hb.cell (by first | assumption | (simp; done) | (simp; omega) | omega)).trans (by simp [go_sem, *])
  have f1_3 : w5.frozen? ⟨w1.heap.size, 3, none⟩ = false := (hb.frozen (by first | assumption | (simp; done) | (simp; omega) | omega)).trans (by simp [go_sem, *])
  have z1 : w1.heap.size < w5.heap.size := Nat.lt_of_lt_of_le (by first | assumption | (simp; done) | (simp; omega) | omega) hb.size
  have c2_0 : w5.cell? ⟨w2.heap.size, 0, none⟩ = some (.bool true) := (hb.cell (by first | assumption | (simp; done) | (simp; omega) | omega)).trans (by simp [go_sem, *])
  have f2_0 : w5.frozen? ⟨w2.heap.size, 0, none⟩ = false := (hb.frozen (by first | assumption | (simp; done) | (simp; omega) | omega)).trans (by simp [go_sem, *])
  have c2_1 : w5.cell? ⟨w2.heap.size, 1, none⟩ = some (.bool false) := (hb.cell (by first | assumption | (simp; done) | (simp; omega) | omega)).trans (by simp [go_sem, *])
  have f2_1 : w5.frozen? ⟨w2.heap.size, 1, none⟩ = false := (hb.frozen (by first | assumption | (simp; done) | (simp; omega) | omega)).trans (by simp [go_sem, *])
  have c2_2 : w5.cell? ⟨w2.heap.size, 2, none⟩ = some (.bool true) := (hb.cell (by first | assumption | (simp; done) | (simp; omega) | omega)).trans (by simp [go_sem, *])
  have f2_2 : w5.frozen? ⟨w2.heap.size, 2, none⟩ = false := (hb.frozen (by first | assumption | (simp; done) | (simp; omega) | omega)).trans (by simp [go_sem, *])
  have c2_3 : w5.cell? ⟨w2.heap.size, 3, none⟩ = some (.int .i64 n) := (hb.cell (by first | assumption | (simp; done) | (simp; omega) | omega)).trans (by simp [go_sem, *])
  have f2_3 : w5.frozen? ⟨w2.heap.size, 3, none⟩ = false := (hb.frozen (by first | assumption | (simp; done) | (simp; omega) | omega)).trans (by simp [go_sem, *])
  have z2 : w2.heap.size < w5.heap.size := Nat.lt_of_lt_of_le (by first | assumption | (simp; done) | (simp; omega) | omega) hb.size
  have c3_0 : w5.cell? ⟨w4.heap.size, 0, none⟩ = some (.bool true) := (hb.cell (by first | assumption | (simp; done) | (simp; omega) | omega)).trans (by simp [go_sem, *])
  have f3_0 : w5.frozen? ⟨w4.heap.size, 0, none⟩ = false := (hb.frozen (by first | assumption | (simp; done) | (simp; omega) | omega)).trans (by simp [go_sem, *])
  have c3_1 : w5.cell? ⟨w4.heap.size, 1, none⟩ = some (.bool false) := (hb.cell (by first | assumption | (simp; done) | (simp; omega) | omega)).trans (by simp [go_sem, *])
  have f3_1 : w5.frozen? ⟨w4.heap.size, 1, none⟩ = false := (hb.frozen (by first | assumption | (simp; done) | (simp; omega) | omega)).trans (by simp [go_sem, *])
  have c3_2 : w5.cell? ⟨w4.heap.size, 2, none⟩ = some (.bool false) := (hb.cell (by first | assumption | (simp; done) | (simp; omega) | omega)).trans (by simp [go_sem, *])
  have f3_2 : w5.frozen? ⟨w4.heap.size, 2, none⟩ = false := (hb.frozen (by first | assumption | (simp; done) | (simp; omega) | omega)).trans (by simp [go_sem, *])
  have c3_3 : w5.cell? ⟨w4.heap.size, 3, none⟩ = some (.int .i64 n) := (hb.cell (by first | assumption | (simp; done) | (simp; omega) | omega)).trans (by simp [go_sem, *])
  have f3_3 : w5.frozen? ⟨w4.heap.size, 3, none⟩ = false := (hb.frozen (by first | assumption | (simp; done) | (simp; omega) | omega)).trans (by simp [go_sem, *])
  have z3 : w4.heap.size < w5.heap.size := Nat.lt_of_lt_of_le (by first | assumption | (simp; done) | (simp; omega) | omega) hb.size
  have hB_w5 : Below w.heap.size w w5 := bstep (by go_grown) hb
  have hs_w5 : w.heap.size ≤ w5.heap.size := hB_w5.size
  clear hb
  go_wp2_with fail
  refine (awake_any _).mono ?_
  rintro e w9 ⟨rfl, hb⟩
  go_wp2
  go_returns
  exact ⟨by simp_all, bstep (by go_grown) hb⟩
set_option maxHeartbeats 2000000 in
theorem never_ft_one_t (n : Int) (w : World) (h1 : 0 ≤ n) (h2 : n < 1024) :
    Calls Try.prog 6 #[.agg #[.bool true, .bool false, .bool true, .int .i64 n], .int .i64 1, .bool true] w fun e w' => e = .returned (.bool true) ∧ Below w.heap.size w w' := by
  have e1 : fin true false true n 1 = true := fin_mk h1 h2 rfl (by omega)
  have e2 : fin true false true n 1 = true := fin_mk h1 h2 rfl (by omega)
  have e4 : fin true false true n 1 = true := fin_mk h1 h2 rfl (by omega)
  have g1 : wr true false true n 1 = 2 := by rw [wr_of e4]; simp
  have g2 : wrE true false true n 1 = 0 := by rw [wrE_of e4]; simp
  have n2 : ((true : Bool) || false) = true := rfl
  have e3 : fin true false true n 1 = true := fin_mk h1 h2 rfl (by omega)
  have e5 : fin true true false n 1 = true := fin_mk h1 h2 rfl (by omega)
  have g3 : wr true true false n 1 = 1 := by rw [wr_of e5]; simp
  have g4 : wrE true true false n 1 = 0 := by rw [wrE_of e5]; simp
  go_enter Try.func6, Try.ntmps6
  go_wp2_with fail
  refine (fork_yes _ _ _ _ _ e1).mono ?_
  rintro e w1 ⟨rfl, hb⟩
  have c0_0 : w1.cell? ⟨w.heap.size, 0, none⟩ = some (.bool true) := (hb.cell (by first | assumption | (simp; done) | (simp; omega) | omega)).trans (by simp [go_sem, *])
  have f0_0 : w1.frozen? ⟨w.heap.size, 0, none⟩ = false := (hb.frozen (by first | assumption | (simp; done) | (simp; omega) | omega)).trans (by simp [go_sem, *])
  have c0_1 : w1.cell? ⟨w.heap.size, 1, none⟩ = some (.bool false) := (hb.cell (by first | assumption | (simp; done) | (simp; omega) | omega)).trans (by simp [go_sem, *])
  have f0_1 : w1.frozen? ⟨w.heap.size, 1, none⟩ = false := (hb.frozen (by first | assumption | (simp; done) | (simp; omega) | omega)).trans (by simp [go_sem, *])
  have c0_2 : w1.cell? ⟨w.heap.size, 2, none⟩ = some (.bool true) := (hb.cell (by first | assumption | (simp; done) | (simp; omega) | omega)).trans (by simp [go_sem, *])
  have f0_2 : w1.frozen? ⟨w.heap.size, 2, none⟩ = false := (hb.frozen (by first | assumption | (simp; done) | (simp; omega) | omega)).trans (by simp [go_sem, *])
  have c0_3 : w1.cell? ⟨w.heap.size, 3, none⟩ = some (.int .i64 n) := (hb.cell (by first | assumption | (simp; done) | (simp; omega) | omega)).trans (by simp [go_sem, *])
  have f0_3 : w1.frozen? ⟨w.heap.size, 3, none⟩ = false := (hb.frozen (by first | assumption | (simp; done) | (simp; omega) | omega)).trans (by simp [go_sem, *])
  have z0 : w.heap.size < w1.heap.size := Nat.lt_of_lt_of_le (by first | assumption | (simp; done) | (simp; omega) | omega) hb.size
  have hB_w1 : Below w.heap.size w w1 := bstep (by go_grown) hb
  have hs_w1 : w.heap.size ≤ w1.heap.size := hB_w1.size
  clear hb
  go_wp2_with fail
  refine (fork_yes _ _ _ _ _ e2).mono ?_
  rintro e w2 ⟨rfl, hb⟩
  have c0_0 : w2.cell? ⟨w.heap.size, 0, none⟩ = some (.bool true) := (hb.cell (by first | assumption | (simp; done) | (simp; omega) | omega)).trans (by simp [go_sem, *])
  have f0_0 : w2.frozen? ⟨w.heap.size, 0, none⟩ = false := (hb.frozen (by first | assumption | (simp; done) | (simp; omega) | omega)).trans (by simp [go_sem, *])
  have c0_1 : w2.cell? ⟨w.heap.size, 1, none⟩ = some (.bool false) := (hb.cell (by first | assumption | (simp; done) | (simp; omega) | omega)).trans (by simp [go_sem, *])
  have f0_1 : w2.frozen? ⟨w.heap.size, 1, none⟩ = false := (hb.frozen (by first | assumption | (simp; done) | (simp; omega) | omega)).trans (by simp [go_sem, *])
  have c0_2 : w2.cell? ⟨w.heap.size, 2, none⟩ = some (.bool true) := (hb.cell (by first | assumption | (simp; done) | (simp; omega) | omega)).trans (by simp [go_sem, *])
  have f0_2 : w2.frozen? ⟨w.heap.size, 2, none⟩ = false := (hb.frozen (by first | assumption | (simp; done) | (simp; omega) | omega)).trans (by simp [go_sem, *])
  have c0_3 : w2.cell? ⟨w.heap.size, 3, none⟩ = some (.int .i64 n) := (hb.cell (by first | assumption | (simp; done) | (simp; omega) | omega)).trans (by simp [go_sem, *])
  have f0_3 : w2.frozen? ⟨w.heap.size, 3, none⟩ = false := (hb.frozen (by first | assumption | (simp; done) | (simp; omega) | omega)).trans (by simp [go_sem, *])
  have z0 : w.heap.size < w2.heap.size := Nat.lt_of_lt_of_le (by first | assumption | (simp; done) | (simp; omega) | omega) hb.size
  have c1_0 : w2.cell? ⟨w1.heap.size, 0, none⟩ = some (.bool true) := (hb.cell (by first | assumption | (simp; done) | (simp; omega) | omega)).trans (by simp [go_sem, *])
  have f1_0 : w2.frozen? ⟨w1.heap.size, 0, none⟩ = false := (hb.frozen (by first | assumption | (simp; done) | (simp; omega) | omega)).trans (by simp [go_sem, *])
  have c1_1 : w2.cell? ⟨w1.heap.size, 1, none⟩ = some (.bool false) := (hb.cell (by first | assumption | (simp; done) | (simp; omega) | omega)).trans (by simp [go_sem, *])
  have f1_1 : w2.frozen? ⟨w1.heap.size, 1, none⟩ = false := (hb.frozen (by first | assumption | (simp; done) | (simp; omega) | omega)).trans (by simp [go_sem, *])
  have c1_2 : w2.cell? ⟨w1.heap.size, 2, none⟩ = some (.bool true) := (hb.cell (by first | assumption | (simp; done) | (simp; omega) | omega)).trans (by simp [go_sem, *])
  have f1_2 : w2.frozen? ⟨w1.heap.size, 2, none⟩ = false := (hb.frozen (by first | assumption | (simp; done) | (simp; omega) | omega)).trans (by simp [go_sem, *])
  have c1_3 : w2.cell? ⟨w1.heap.size, 3, none⟩ = some (.int .i64 n) := (hb.cell (by first | assumption | (simp; done) | (simp; omega) | omega)).trans (by simp [go_sem, *])
  have f1_3 : w2.frozen? ⟨w1.heap.size, 3, none⟩ = false := (hb.frozen (by first | assumption | (simp; done) | (simp; omega) | omega)).trans (by simp [go_sem, *])
  have z1 : w1.heap.size < w2.heap.size := Nat.lt_of_lt_of_le (by first | assumption | (simp; done) | (simp; omega) | omega) hb.size
  have hB_w2 : Below w.heap.size w w2 := bstep (by go_grown) hb
  have hs_w2 : w.heap.size ≤ w2.heap.size := hB_w2.size
  clear hb
  go_wp2_with fail
  refine (write_any _ _ _ _ _ _).mono ?_
  rintro e w3 ⟨rfl, hb⟩
  have c0_0 : w3.cell? ⟨w.heap.size, 0, none⟩ = some (.bool true) := (hb.cell (by first | assumption | (simp; done) | (simp; omega) | omega)).trans (by simp [go_sem, *])
  have f0_0 : w3.frozen? ⟨w.heap.size, 0, none⟩ = false := (hb.frozen (by first | assumption | (simp; done) | (simp; omega) | omega)).trans (by simp [go_sem, *])
  have c0_1 : w3.cell? ⟨w.heap.size, 1, none⟩ = some (.bool false) := (hb.cell (by first | assumption | (simp; done) | (simp; omega) | omega)).trans (by simp [go_sem, *])
  have f0_1 : w3.frozen? ⟨w.heap.size, 1, none⟩ = false := (hb.frozen (by first | assumption | (simp; done) | (simp; omega) | omega)).trans (by simp [go_sem, *])
  have c0_2 : w3.cell? ⟨w.heap.size, 2, none⟩ = some (.bool true) := (hb.cell (by first | assumption | (simp; done) | (simp; omega) | omega)).trans (by simp [go_sem, *])
  have f0_2 : w3.frozen? ⟨w.heap.size, 2, none⟩ = false := (hb.frozen (by first | assumption | (simp; done) | (simp; omega) | omega)).trans (by simp [go_sem, *])
  have c0_3 : w3.cell? ⟨w.heap.size, 3, none⟩ = some (.int .i64 n) := (hb.cell (by first | assumption | (simp; done) | (simp; omega) | omega)).trans (by simp [go_sem, *])
  have f0_3 : w3.frozen? ⟨w.heap.size, 3, none⟩ = false := (hb.frozen (by first | assumption | (simp; done) | (simp; omega) | omega)).trans (by simp [go_sem, *])
  have z0 : w.heap.size < w3.heap.size := Nat.lt_of_lt_of_le (by first | assumption | (simp; done) | (simp; omega) | omega) hb.size
  have c1_0 : w3.cell? ⟨w1.heap.size, 0, none⟩ = some (.bool true) := (hb.cell (by first | assumption | (simp; done) | (simp; omega) | omega)).trans (by simp [go_sem, *])
  have f1_0 : w3.frozen? ⟨w1.heap.size, 0, none⟩ = false := (hb.frozen (by first | assumption | (simp; done) | (simp; omega) | omega)).trans (by simp [go_sem, *])
  have c1_1 : w3.cell? ⟨w1.heap.size, 1, none⟩ = some (.bool false) := (hb.cell (by first | assumption | (simp; done) | (simp; omega) | omega)).trans (by simp [go_sem, *])
  have f1_1 : w3.frozen? ⟨w1.heap.size, 1, none⟩ = false := (hb.frozen (by first | assumption | (simp; done) | (simp; omega) | omega)).trans (by simp [go_sem, *])
  have c1_2 : w3.cell? ⟨w1.heap.size, 2, none⟩ = some (.bool true) := (hb.cell (by first | assumption | (simp; done) | (simp; omega) | omega)).trans (by simp [go_sem, *])
  have f1_2 : w3.frozen? ⟨w1.heap.size, 2, none⟩ = false := (hb.frozen (by first | assumption | (simp; done) | (simp; omega) | omega)).trans (by simp [go_sem, *])
  have c1_3 : w3.cell? ⟨w1.heap.size, 3, none⟩ = some (.int .i64 n) := (hb.cell (by first | assumption | (simp; done) | (simp; omega) | omega)).trans (by simp [go_sem, *])
  have f1_3 : w3.frozen? ⟨w1.heap.size, 3, none⟩ = false := (hb.frozen (by first | assumption | (simp; done) | (simp; omega) | omega)).trans (by simp [go_sem, *])
  have z1 : w1.heap.size < w3.heap.size := Nat.lt_of_lt_of_le (by first | assumption | (simp; done) | (simp; omega) | omega) hb.size
  have c2_0 : w3.cell? ⟨w2.heap.size, 0, none⟩ = some (.bool true) := (hb.cell (by first | assumption | (simp; done) | (simp; omega) | omega)).trans (by simp [go_sem, *])
  have f2_0 : w3.frozen? ⟨w2.heap.size, 0, none⟩ = false := (hb.frozen (by first | assumption | (simp; done) | (simp; omega) | omega)).trans (by simp [go_sem, *])
  have c2_1 : w3.cell? ⟨w2.heap.size, 1, none⟩ = some (.bool false) := (hb.cell (by first | assumption | (simp; done) | (simp; omega) | omega)).trans (by simp [go_sem, *])
  have f2_1 : w3.frozen? ⟨w2.heap.size, 1, none⟩ = false := (hb.frozen (by first | assumption | (simp; done) | (simp; omega) | omega)).trans (by simp [go_sem, *])
  have c2_2 : w3.cell? ⟨w2.heap.size, 2, none⟩ = some (.bool true) := (hb.cell (by first | assumption | (simp; done) | (simp; omega) | omega)).trans (by simp [go_sem, *])
  have f2_2 : w3.frozen? ⟨w2.heap.size, 2, none⟩ = false := (hb.frozen (by first | assumption | (simp; done) | (simp; omega) | omega)).trans (by simp [go_sem, *])
  have c2_3 : w3.cell? ⟨w2.heap.size, 3, none⟩ = some (.int .i64 n) := (hb.cell (by first | assumption | (simp; done) | (simp; omega) | omega)).trans (by simp [go_sem, *])
  have f2_3 : w3.frozen? ⟨w2.heap.size, 3, none⟩ = false := (hb.frozen (by first | assumption | (simp; done) | (simp; omega) | omega)).trans (by simp [go_sem, *])
  have z2 : w2.heap.size < w3.heap.size := Nat.lt_of_lt_of_le (by first | assumption | (simp; done) | (simp; omega) | omega) hb.size
  have hB_w3 : Below w.heap.size w w3 := bstep (by go_grown) hb
  have hs_w3 : w.heap.size ≤ w3.heap.size := hB_w3.size
  clear hb
  go_wp2_with fail
  refine (set_yes _ _ _ _ _ _ _ e3).mono ?_
  rintro e w4 ⟨rfl, hb⟩
  have c0_0 : w4.cell? ⟨w.heap.size, 0, none⟩ = some (.bool true) := (hb.cell (by first | assumption | (simp; done) | (simp; omega) | omega)).trans (by simp [go_sem, *])
  have f0_0 : w4.frozen? ⟨w.heap.size, 0, none⟩ = false := (hb.frozen (by first | assumption | (simp; done) | (simp; omega) | omega)).trans (by simp [go_sem, *])
  have c0_1 : w4.cell? ⟨w.heap.size, 1, none⟩ = some (.bool false) := (hb.cell (by first | assumption | (simp; done) | (simp; omega) | omega)).trans (by simp [go_sem, *])
  have f0_1 : w4.frozen? ⟨w.heap.size, 1, none⟩ = false := (hb.frozen (by first | assumption | (simp; done) | (simp; omega) | omega)).trans (by simp [go_sem, *])
  have c0_2 : w4.cell? ⟨w.heap.size, 2, none⟩ = some (.bool true) := (hb.cell (by first | assumption | (simp; done) | (simp; omega) | omega)).trans (by simp [go_sem, *])
  have f0_2 : w4.frozen? ⟨w.heap.size, 2, none⟩ = false := (hb.frozen (by first | assumption | (simp; done) | (simp; omega) | omega)).trans (by simp [go_sem, *])
  have c0_3 : w4.cell? ⟨w.heap.size, 3, none⟩ = some (.int .i64 n) := (hb.cell (by first | assumption | (simp; done) | (simp; omega) | omega)).trans (by simp [go_sem, *])
  have f0_3 : w4.frozen? ⟨w.heap.size, 3, none⟩ = false := (hb.frozen (by first | assumption | (simp; done) | (simp; omega) | omega)).trans (by simp [go_sem, *])
  have z0 : w.heap.size < w4.heap.size := Nat.lt_of_lt_of_le (by first | assumption | (simp; done) | (simp; omega) | omega) hb.size
  have c1_0 : w4.cell? ⟨w1.heap.size, 0, none⟩ = some (.bool true) := (hb.cell (by first | assumption | (simp; done) | (simp; omega) | omega)).trans (by simp [go_sem, *])
  have f1_0 : w4.frozen? ⟨w1.heap.size, 0, none⟩ = false := (hb.frozen (by first | assumption | (simp; done) | (simp; omega) | omega)).trans (by simp [go_sem, *])
  have c1_1 : w4.cell? ⟨w1.heap.size, 1, none⟩ = some (.bool false) := (hb.cell (by first | assumption | (simp; done) | (simp; omega) | omega)).trans (by simp [go_sem, *])
  have f1_1 : w4.frozen? ⟨w1.heap.size, 1, none⟩ = false := (hb.frozen (by first | assumption | (simp; done) | (simp; omega) | omega)).trans (by simp [go_sem, *])
  have c1_2 : w4.cell? ⟨w1.heap.size, 2, none⟩ = some (.bool true) := (hb.cell (by first | assumption | (simp; done) | (simp; omega) | omega)).trans (by simp [go_sem, *])
  have f1_2 : w4.frozen? ⟨w1.heap.size, 2, none⟩ = false := (hb.frozen (by first | assumption | (simp; done) | (simp; omega) | omega)).trans (by simp [go_sem, *])
  have c1_3 : w4.cell? ⟨w1.heap.size, 3, none⟩ = some (.int .i64 n) := (hb.cell (by first | assumption | (simp; done) | (simp; omega) | omega)).trans (by simp [go_sem, *])
  have f1_3 : w4.frozen? ⟨w1.heap.size, 3, none⟩ = false := (hb.frozen (by first | assumption | (simp; done) | (simp; omega) | omega)).trans (by simp [go_sem, *])
  have z1 : w1.heap.size < w4.heap.size := Nat.lt_of_lt_of_le (by first | assumption | (simp; done) | (simp; omega) | omega) hb.size
  have c2_0 : w4.cell? ⟨w2.heap.size, 0, none⟩ = some (.bool true) := (hb.cell (by first | assumption | (simp; done) | (simp; omega) | omega)).trans (by simp [go_sem, *])
  have f2_0 : w4.frozen? ⟨w2.heap.size, 0, none⟩ = false := (hb.frozen (by first | assumption | (simp; done) | (simp; omega) | omega)).trans (by simp [go_sem, *])
  have c2_1 : w4.cell? ⟨w2.heap.size, 1, none⟩ = some (.bool false) := (hb.cell (by first | assumption | (simp; done) | (simp; omega) | omega)).trans (by simp [go_sem, *])
  have f2_1 : w4.frozen? ⟨w2.heap.size, 1, none⟩ = false := (hb.frozen (by first | assumption | (simp; done) | (simp; omega) | omega)).trans (by simp [go_sem, *])
  have c2_2 : w4.cell? ⟨w2.heap.size, 2, none⟩ = some (.bool true) := (hb.cell (by first | assumption | (simp; done) | (simp; omega) | omega)).trans (by simp [go_sem, *])
  have f2_2 : w4.frozen? ⟨w2.heap.size, 2, none⟩ = false := (hb.frozen (by first | assumption | (simp; done) | (simp; omega) | omega)).trans (by simp [go_sem, *])
  have c2_3 : w4.cell? ⟨w2.heap.size, 3, none⟩ = some (.int .i64 n) := (hb.cell (by first | assumption | (simp; done) | (simp; omega) | omega)).trans (by simp [go_sem, *])
  have f2_3 : w4.frozen? ⟨w2.heap.size, 3, none⟩ = false := (hb.frozen (by first | assumption | (simp; done) | (simp; omega) | omega)).trans (by simp [go_sem, *])
  have z2 : w2.heap.size < w4.heap.size := Nat.lt_of_lt_of_le (by first | assumption | (simp; done) | (simp; omega) | omega) hb.size
  have hB_w4 : Below w.heap.size w w4 := bstep (by go_grown) hb
  have hs_w4 : w.heap.size ≤ w4.heap.size := hB_w4.size
  clear hb
  go_wp2_with fail
  refine (write_any _ _ _ _ _ _).mono ?_
  rintro e w5 ⟨rfl, hb⟩
  have c0_0 : w5.cell? ⟨w.heap.size, 0, none⟩ = some (.bool true) := (hb.cell (by first | assumption | (simp; done) | (simp; omega) | omega)).trans (by simp [go_sem, *])
  have f0_0 : w5.frozen? ⟨w.heap.size, 0, none⟩ = false := (hb.frozen (by first | assumption | (simp; done) | (simp; omega) | omega)).trans (by simp [go_sem, *])
  have c0_1 : w5.cell? ⟨w.heap.size, 1, none⟩ = some (.bool false) := (hb.cell (by first | assumption | (simp; done) | (simp; omega) | omega)).trans (by simp [go_sem, *])
  have f0_1 : w5.frozen? ⟨w.heap.size, 1, none⟩ = false := (hb.frozen (by first | assumption | (simp; done) | (simp; omega) | omega)).trans (by simp [go_sem, *])
  have c0_2 : w5.cell? ⟨w.heap.size, 2, none⟩ = some (.bool true) := (hb.cell (by first | assumption | (simp; done) | (simp; omega) | omega)).trans (by simp [go_sem, *])
  have f0_2 : w5.frozen? ⟨w.heap.size, 2, none⟩ = false := (hb.frozen (by first | assumption | (simp; done) | (simp; omega) | omega)).trans (by simp [go_sem, *])
  have c0_3 : w5.cell? ⟨w.heap.size, 3, none⟩ = some (.int .i64 n) := (hb.cell (by first | assumption | (simp; done) | (simp; omega) | omega)).trans (by simp [go_sem, *])
  have f0_3 : w5.frozen? ⟨w.heap.size, 3, none⟩ = false := (hb.frozen (by first | assumption | (simp; done) | (simp; omega) | omega)).trans (by simp [go_sem, *])
  have z0 : w.heap.size < w5.heap.size := Nat.lt_of_lt_of_le (by first | assumption | (simp; done) | (simp; omega) | omega) hb.size
  have c1_0 : w5.cell? ⟨w1.heap.size, 0, none⟩ = some (.bool true) := (hb.cell (by first | assumption | (simp; done) | (simp; omega) | omega)).trans (by simp [go_sem, *])
  have f1_0 : w5.frozen? ⟨w1.heap.size, 0, none⟩ = false := (hb.frozen (by first | assumption | (simp; done) | (simp; omega) | omega)).trans (by simp [go_sem, *])
  have c1_1 : w5.cell? ⟨w1.heap.size, 1, none⟩ = some (.bool false) := (hb.cell (by first | assumption | (simp; done) | (simp; omega) | omega)).trans (by simp [go_sem, *])
  have f1_1 : w5.frozen? ⟨w1.heap.size, 1, none⟩ = false := (hb.frozen (by first | assumption | (simp; done) | (simp; omega) | omega)).trans (by simp [go_sem, *])
  have c1_2 : w5.cell? ⟨w1.heap.size, 2, none⟩ = some (.bool true) := (hb.cell (by first | assumption | (simp; done) | (simp; omega) | omega)).trans (by simp [go_sem, *])
  have f1_2 : w5.frozen? ⟨w1.heap.size, 2, none⟩ = false := (hb.frozen (by first | assumption | (simp; done) | (simp; omega) | omega)).trans (by simp [go_sem, *])
  have c1_3 : w5.cell? ⟨w1.heap.size, 3, none⟩ = some (.int .i64 n) := (hb.cell (by first | assumption | (simp; done) | (simp; omega) | omega)).trans (by simp [go_sem, *])
  have f1_3 : w5.frozen? ⟨w1.heap.size, 3, none⟩ = false := (hb.frozen (by first | assumption | (simp; done) | (simp; omega) | omega)).trans (by simp [go_sem, *])
  have z1 : w1.heap.size < w5.heap.size := Nat.lt_of_lt_of_le (by first | assumption | (simp; done) | (simp; omega) | omega) hb.size
  have c2_0 : w5.cell? ⟨w2.heap.size, 0, none⟩ = some (.bool true) := (hb.cell (by first | assumption | (simp; done) | (simp; omega) | omega)).trans (by simp [go_sem, *])
  have f2_0 : w5.frozen? ⟨w2.heap.size, 0, none⟩ = false := (hb.frozen (by first | assumption | (simp; done) | (simp; omega) | omega)).trans (by simp [go_sem, *])
  have c2_1 : w5.cell? ⟨w2.heap.size, 1, none⟩ = some (.bool false) := (hb.cell (by first | assumption | (simp; done) | (simp; omega) | omega)).trans (by simp [go_sem, *])
  have f2_1 : w5.frozen? ⟨w2.heap.size, 1, none⟩ = false := (hb.frozen (by first | assumption | (simp; done) | (simp; omega) | omega)).trans (by simp [go_sem, *])
  have c2_2 : w5.cell? ⟨w2.heap.size, 2, none⟩ = some (.bool true) := (hb.cell (by first | assumption | (simp; done) | (simp; omega) | omega)).trans (by simp [go_sem, *])
  have f2_2 : w5.frozen? ⟨w2.heap.size, 2, none⟩ = false := (hb.frozen (by first | assumption | (simp; done) | (simp; omega) | omega)).trans (by simp [go_sem, *])
  have c2_3 : w5.cell? ⟨w2.heap.size, 3, none⟩ = some (.int .i64 n) := (hb.cell (by first | assumption | (simp; done) | (simp; omega) | omega)).trans (by simp [go_sem, *])
  have f2_3 : w5.frozen? ⟨w2.heap.size, 3, none⟩ = false := (hb.frozen (by first | assumption | (simp; done) | (simp; omega) | omega)).trans (by simp [go_sem, *])
  have z2 : w2.heap.size < w5.heap.size := Nat.lt_of_lt_of_le (by first | assumption | (simp; done) | (simp; omega) | omega) hb.size
  have c3_0 : w5.cell? ⟨w4.heap.size, 0, none⟩ = some (.bool true) := (hb.cell (by first | assumption | (simp; done) | (simp; omega) | omega)).trans (by simp [go_sem, *])
  have f3_0 : w5.frozen? ⟨w4.heap.size, 0, none⟩ = false := (hb.frozen (by first | assumption | (simp; done) | (simp; omega) | omega)).trans (by simp [go_sem, *])
  have c3_1 : w5.cell? ⟨w4.heap.size, 1, none⟩ = some (.bool true) := (hb.cell (by first | assumption | (simp; done) | (simp; omega) | omega)).trans (by simp [go_sem, *])
  have f3_1 : w5.frozen? ⟨w4.heap.size, 1, none⟩ = false := (hb.frozen (by first | assumption | (simp; done) | (simp; omega) | omega)).trans (by simp [go_sem, *])
  have c3_2 : w5.cell? ⟨w4.heap.size, 2, none⟩ = some (.bool false) := (hb.cell (by first | assumption | (simp; done) | (simp; omega) | omega)).trans (by simp [go_sem, *])
  have f3_2 : w5.frozen? ⟨w4.heap.size, 2, none⟩ = false := (hb.frozen (by first | assumption | (simp; done) | (simp; omega) | omega)).trans (by simp [go_sem, *])
  have c3_3 : w5.cell? ⟨w4.heap.size, 3, none⟩ = some (.int .i64 n) := (hb.cell (by first | assumption | (simp; done) | (simp; omega) | omega)).trans (by simp [go_sem, *])
  have f3_3 : w5.frozen? ⟨w4.heap.size, 3, none⟩ = false := (hb.frozen (by first | assumption | (simp; done) | (simp; omega) | omega)).trans (by simp [go_sem, *])
  have z3 : w4.heap.size < w5.heap.size := Nat.lt_of_lt_of_le (by first | assumption | (simp; done) | (simp; omega) | omega) hb.size
  have hB_w5 : Below w.heap.size w w5 := bstep (by go_grown) hb
  have hs_w5 : w.heap.size ≤ w5.heap.size := hB_w5.size
  clear hb
  go_wp2_with fail
  refine (awake_any _).mono ?_
  rintro e w9 ⟨rfl, hb⟩
  go_wp2
  go_returns
  exact ⟨by simp_all, bstep (by go_grown) hb⟩
set_option maxHeartbeats 2000000 in
theorem never_ft_one_f (n : Int) (w : World) (h1 : 0 ≤ n) (h2 : n < 1024) :
    Calls Try.prog 6 #[.agg #[.bool true, .bool false, .bool true, .int .i64 n], .int .i64 1, .bool false] w fun e w' => e = .returned (.bool true) ∧ Below w.heap.size w w' := by
  have e1 : fin true false true n 1 = true := fin_mk h1 h2 rfl (by omega)
  have e2 : fin true false true n 1 = true := fin_mk h1 h2 rfl (by omega)
  have e4 : fin true false true n 1 = true := fin_mk h1 h2 rfl (by omega)
  have g1 : wr true false true n 1 = 2 := by rw [wr_of e4]; simp
  have g2 : wrE true false true n 1 = 0 := by rw [wrE_of e4]; simp
  have n2 : ((true : Bool) || false) = true := rfl
  have e3 : fin true false true n 1 = true := fin_mk h1 h2 rfl (by omega)
  have e5 : fin true false false n 1 = true := fin_mk h1 h2 rfl (by omega)
  have g3 : wr true false false n 1 = 0 := by rw [wr_of e5]; simp
  have g4 : wrE true false false n 1 = 8 := by rw [wrE_of e5]; simp
  go_enter Try.func6, Try.ntmps6
  go_wp2_with fail
  refine (fork_yes _ _ _ _ _ e1).mono ?_
  rintro e w1 ⟨rfl, hb⟩
  have c0_0 : w1.cell? ⟨w.heap.size, 0, none⟩ = some (.bool true) := (hb.cell (by first | assumption | (simp; done) | (simp; omega) | omega)).trans (by simp [go_sem, *])
  have f0_0 : w1.frozen? ⟨w.heap.size, 0, none⟩ = false := (hb.frozen (by first | assumption | (simp; done) | (simp; omega) | omega)).trans (by simp [go_sem, *])
  have c0_1 : w1.cell? ⟨w.heap.size, 1, none⟩ = some (.bool false) := (hb.cell (by first | assumption | (simp; done) | (simp; omega) | omega)).trans (by simp [go_sem, *])
  have f0_1 : w1.frozen? ⟨w.heap.size, 1, none⟩ = false := (hb.frozen (by first | assumption | (simp; done) | (simp; omega) | omega)).trans (by simp [go_sem, *])
  have c0_2 : w1.cell? ⟨w.heap.size, 2, none⟩ = some (.bool true) := (hb.cell (by first | assumption | (simp; done) | (simp; omega) | omega)).trans (by simp [go_sem, *])
  have f0_2 : w1.frozen? ⟨w.heap.size, 2, none⟩ = false := (hb.frozen (by first | assumption | (simp; done) | (simp; omega) | omega)).trans (by simp [go_sem, *])
  have c0_3 : w1.cell? ⟨w.heap.size, 3, none⟩ = some (.int .i64 n) := (hb.cell (by first | assumption | (simp; done) | (simp; omega) | omega)).trans (by simp [go_sem, *])
  have f0_3 : w1.frozen? ⟨w.heap.size, 3, none⟩ = false := (hb.frozen (by first | assumption | (simp; done) | (simp; omega) | omega)).trans (by simp [go_sem, *])
  have z0 : w.heap.size < w1.heap.size := Nat.lt_of_lt_of_le (by first | assumption | (simp; done) | (simp; omega) | omega) hb.size
  have hB_w1 : Below w.heap.size w w1 := bstep (by go_grown) hb
  have hs_w1 : w.heap.size ≤ w1.heap.size := hB_w1.size
  clear hb
  go_wp2_with fail
  refine (fork_yes _ _ _ _ _ e2).mono ?_
  rintro e w2 ⟨rfl, hb⟩
  have c0_0 : w2.cell? ⟨w.heap.size, 0, none⟩ = some (.bool true) := (hb.cell (by first | assumption | (simp; done) | (simp; omega) | omega)).trans (by simp [go_sem, *])
  have f0_0 : w2.frozen? ⟨w.heap.size, 0, none⟩ = false := (hb.frozen (by first | assumption | (simp; done) | (simp; omega) | omega)).trans (by simp [go_sem, *])
  have c0_1 : w2.cell? ⟨w.heap.size, 1, none⟩ = some (.bool false) := (hb.cell (by first | assumption | (simp; done) | (simp; omega) | omega)).trans (by simp [go_sem, *])
  have f0_1 : w2.frozen? ⟨w.heap.size, 1, none⟩ = false := (hb.frozen (by first | assumption | (simp; done) | (simp; omega) | omega)).trans (by simp [go_sem, *])
  have c0_2 : w2.cell? ⟨w.heap.size, 2, none⟩ = some (.bool true) := (hb.cell (by first | assumption | (simp; done) | (simp; omega) | omega)).trans (by simp [go_sem, *])
  have f0_2 : w2.frozen? ⟨w.heap.size, 2, none⟩ = false := (hb.frozen (by first | assumption | (simp; done) | (simp; omega) | omega)).trans (by simp [go_sem, *])
  have c0_3 : w2.cell? ⟨w.heap.size, 3, none⟩ = some (.int .i64 n) := (hb.cell (by first | assumption | (simp; done) | (simp; omega) | omega)).trans (by simp [go_sem, *])
  have f0_3 : w2.frozen? ⟨w.heap.size, 3, none⟩ = false := (hb.frozen (by first | assumption | (simp; done) | (simp; omega) | omega)).trans (by simp [go_sem, *])
  have z0 : w.heap.size < w2.heap.size := Nat.lt_of_lt_of_le (by first | assumption | (simp; done) | (simp; omega) | omega) hb.size
  have c1_0 : w2.cell? ⟨w1.heap.size, 0, none⟩ = some (.bool true) := (hb.cell (by first | assumption | (simp; done) | (simp; omega) | omega)).trans (by simp [go_sem, *])
  have f1_0 : w2.frozen? ⟨w1.heap.size, 0, none⟩ = false := (hb.frozen (by first | assumption | (simp; done) | (simp; omega) | omega)).trans (by simp [go_sem, *])
  have c1_1 : w2.cell? ⟨w1.heap.size, 1, none⟩ = some (.bool false) := (hb.cell (by first | assumption | (simp; done) | (simp; omega) | omega)).trans (by simp [go_sem, *])
  have f1_1 : w2.frozen? ⟨w1.heap.size, 1, none⟩ = false := (hb.frozen (by first | assumption | (simp; done) | (simp; omega) | omega)).trans (by simp [go_sem, *])
  have c1_2 : w2.cell? ⟨w1.heap.size, 2, none⟩ = some (.bool true) := (hb.cell (by first | assumption | (simp; done) | (simp; omega) | omega)).trans (by simp [go_sem, *])
  have f1_2 : w2.frozen? ⟨w1.heap.size, 2, none⟩ = false := (hb.frozen (by first | assumption | (simp; done) | (simp; omega) | omega)).trans (by simp [go_sem, *])
  have c1_3 : w2.cell? ⟨w1.heap.size, 3, none⟩ = some (.int .i64 n) := (hb.cell (by first | assumption | (simp; done) | (simp; omega) | omega)).trans (by simp [go_sem, *])
  have f1_3 : w2.frozen? ⟨w1.heap.size, 3, none⟩ = false := (hb.frozen (by first | assumption | (simp; done) | (simp; omega) | omega)).trans (by simp [go_sem, *])
  have z1 : w1.heap.size < w2.heap.size := Nat.lt_of_lt_of_le (by first | assumption | (simp; done) | (simp; omega) | omega) hb.size
  have hB_w2 : Below w.heap.size w w2 := bstep (by go_grown) hb
  have hs_w2 : w.heap.size ≤ w2.heap.size := hB_w2.size
  clear hb
  go_wp2_with fail
  refine (write_any _ _ _ _ _ _).mono ?_
  rintro e w3 ⟨rfl, hb⟩
  have c0_0 : w3.cell? ⟨w.heap.size, 0, none⟩ = some (.bool true) := (hb.cell (by first | assumption | (simp; done) | (simp; omega) | omega)).trans (by simp [go_sem, *])
  have f0_0 : w3.frozen? ⟨w.heap.size, 0, none⟩ = false := (hb.frozen (by first | assumption | (simp; done) | (simp; omega) | omega)).trans (by simp [go_sem, *])
  have c0_1 : w3.cell? ⟨w.heap.size, 1, none⟩ = some (.bool false) := (hb.cell (by first | assumption | (simp; done) | (simp; omega) | omega)).trans (by simp [go_sem, *])
  have f0_1 : w3.frozen? ⟨w.heap.size, 1, none⟩ = false := (hb.frozen (by first | assumption | (simp; done) | (simp; omega) | omega)).trans (by simp [go_sem, *])
  have c0_2 : w3.cell? ⟨w.heap.size, 2, none⟩ = some (.bool true) := (hb.cell (by first | assumption | (simp; done) | (simp; omega) | omega)).trans (by simp [go_sem, *])
  have f0_2 : w3.frozen? ⟨w.heap.size, 2, none⟩ = false := (hb.frozen (by first | assumption | (simp; done) | (simp; omega) | omega)).trans (by simp [go_sem, *])
  have c0_3 : w3.cell? ⟨w.heap.size, 3, none⟩ = some (.int .i64 n) := (hb.cell (by first | assumption | (simp; done) | (simp; omega) | omega)).trans (by simp [go_sem, *])
  have f0_3 : w3.frozen? ⟨w.heap.size, 3, none⟩ = false := (hb.frozen (by first | assumption | (simp; done) | (simp; omega) | omega)).trans (by simp [go_sem, *])
  have z0 : w.heap.size < w3.heap.size := Nat.lt_of_lt_of_le (by first | assumption | (simp; done) | (simp; omega) | omega) hb.size
  have c1_0 : w3.cell? ⟨w1.heap.size, 0, none⟩ = some (.bool true) := (hb.cell (by first | assumption | (simp; done) | (simp; omega) | omega)).trans (by simp [go_sem, *])
  have f1_0 : w3.frozen? ⟨w1.heap.size, 0, none⟩ = false := (hb.frozen (by first | assumption | (simp; done) | (simp; omega) | omega)).trans (by simp [go_sem, *])
  have c1_1 : w3.cell? ⟨w1.heap.size, 1, none⟩ = some (.bool false) := (hb.cell (by first | assumption | (simp; done) | (simp; omega) | omega)).trans (by simp [go_sem, *])
  have f1_1 : w3.frozen? ⟨w1.heap.size, 1, none⟩ = false := (hb.frozen (by first | assumption | (simp; done) | (simp; omega) | omega)).trans (by simp [go_sem, *])
  have c1_2 : w3.cell? ⟨w1.heap.size, 2, none⟩ = some (.bool true) := (hb.cell (by first | assumption | (simp; done) | (simp; omega) | omega)).trans (by simp [go_sem, *])
  have f1_2 : w3.frozen? ⟨w1.heap.size, 2, none⟩ = false := (hb.frozen (by first | assumption | (simp; done) | (simp; omega) | omega)).trans (by simp [go_sem, *])
  have c1_3 : w3.cell? ⟨w1.heap.size, 3, none⟩ = some (.int .i64 n) := (hb.cell (by first | assumption | (simp; done) | (simp; omega) | omega)).trans (by simp [go_sem, *])
  have f1_3 : w3.frozen? ⟨w1.heap.size, 3, none⟩ = false := (hb.frozen (by first | assumption | (simp; done) | (simp; omega) | omega)).trans (by simp [go_sem, *])
  have z1 : w1.heap.size < w3.heap.size := Nat.lt_of_lt_of_le (by first | assumption | (simp; done) | (simp; omega) | omega) hb.size
  have c2_0 : w3.cell? ⟨w2.heap.size, 0, none⟩ = some (.bool true) := (hb.cell (by first | assumption | (simp; done) | (simp; omega) | omega)).trans (by simp [go_sem, *])
  have f2_0 : w3.frozen? ⟨w2.heap.size, 0, none⟩ = false := (hb.frozen (by first | assumption | (simp; done) | (simp; omega) | omega)).trans (by simp [go_sem, *])
  have c2_1 : w3.cell? ⟨w2.heap.size, 1, none⟩ = some (.bool false) := (hb.cell (by first | assumption | (simp; done) | (simp; omega) | omega)).trans (by simp [go_sem, *])
  have f2_1 : w3.frozen? ⟨w2.heap.size, 1, none⟩ = false := (hb.frozen (by first | assumption | (simp; done) | (simp; omega) | omega)).trans (by simp [go_sem, *])
  have c2_2 : w3.cell? ⟨w2.heap.size, 2, none⟩ = some (.bool true) := (hb.cell (by first | assumption | (simp; done) | (simp; omega) | omega)).trans (by simp [go_sem, *])
  have f2_2 : w3.frozen? ⟨w2.heap.size, 2, none⟩ = false := (hb.frozen (by first | assumption | (simp; done) | (simp; omega) | omega)).trans (by simp [go_sem, *])
  have c2_3 : w3.cell? ⟨w2.heap.size, 3, none⟩ = some (.int .i64 n) := (hb.cell (by first | assumption | (simp; done) | (simp; omega) | omega)).trans (by simp [go_sem, *])
  have f2_3 : w3.frozen? ⟨w2.heap.size, 3, none⟩ = false := (hb.frozen (by first | assumption | (simp; done) | (simp; omega) | omega)).trans (by simp [go_sem, *])
  have z2 : w2.heap.size < w3.heap.size := Nat.lt_of_lt_of_le (by first | assumption | (simp; done) | (simp; omega) | omega) hb.size
  have hB_w3 : Below w.heap.size w w3 := bstep (by go_grown) hb
  have hs_w3 : w.heap.size ≤ w3.heap.size := hB_w3.size
  clear hb
  go_wp2_with fail
  refine (set_yes _ _ _ _ _ _ _ e3).mono ?_
  rintro e w4 ⟨rfl, hb⟩
  have c0_0 : w4.cell? ⟨w.heap.size, 0, none⟩ = some (.bool true) := (hb.cell (by first | assumption | (simp; done) | (simp; omega) | omega)).trans (by simp [go_sem, *])
  have f0_0 : w4.frozen? ⟨w.heap.size, 0, none⟩ = false := (hb.frozen (by first | assumption | (simp; done) | (simp; omega) | omega)).trans (by simp [go_sem, *])
  have c0_1 : w4.cell? ⟨w.heap.size, 1, none⟩ = some (.bool false) := (hb.cell (by first | assumption | (simp; done) | (simp; omega) | omega)).trans (by simp [go_sem, *])
  have f0_1 : w4.frozen? ⟨w.heap.size, 1, none⟩ = false := (hb.frozen (by first | assumption | (simp; done) | (simp; omega) | omega)).trans (by simp [go_sem, *])
  have c0_2 : w4.cell? ⟨w.heap.size, 2, none⟩ = some (.bool true) := (hb.cell (by first | assumption | (simp; done) | (simp; omega) | omega)).trans (by simp [go_sem, *])
  have f0_2 : w4.frozen? ⟨w.heap.size, 2, none⟩ = false := (hb.frozen (by first | assumption | (simp; done) | (simp; omega) | omega)).trans (by simp [go_sem, *])
  have c0_3 : w4.cell? ⟨w.heap.size, 3, none⟩ = some (.int .i64 n) := (hb.cell (by first | assumption | (simp; done) | (simp; omega) | omega)).trans (by simp [go_sem, *])
  have f0_3 : w4.frozen? ⟨w.heap.size, 3, none⟩ = false := (hb.frozen (by first | assumption | (simp; done) | (simp; omega) | omega)).trans (by simp [go_sem, *])
  have z0 : w.heap.size < w4.heap.size := Nat.lt_of_lt_of_le (by first | assumption | (simp; done) | (simp; omega) | omega) hb.size
  have c1_0 : w4.cell? ⟨w1.heap.size, 0, none⟩ = some (.bool true) := (hb.cell (by first | assumption | (simp; done) | (simp; omega) | omega)).trans (by simp [go_sem, *])
  have f1_0 : w4.frozen? ⟨w1.heap.size, 0, none⟩ = false := (hb.frozen (by first | assumption | (simp; done) | (simp; omega) | omega)).trans (by simp [go_sem, *])
  have c1_1 : w4.cell? ⟨w1.heap.size, 1, none⟩ = some (.bool false) := (hb.cell (by first | assumption | (simp; done) | (simp; omega) | omega)).trans (by simp [go_sem, *])
  have f1_1 : w4.frozen? ⟨w1.heap.size, 1, none⟩ = false := (hb.frozen (by first | assumption | (simp; done) | (simp; omega) | omega)).trans (by simp [go_sem, *])
  have c1_2 : w4.cell? ⟨w1.heap.size, 2, none⟩ = some (.bool true) := (hb.cell (by first | assumption | (simp; done) | (simp; omega) | omega)).trans (by simp [go_sem, *])
  have f1_2 : w4.frozen? ⟨w1.heap.size, 2, none⟩ = false := (hb.frozen (by first | assumption | (simp; done) | (simp; omega) | omega)).trans (by simp [go_sem, *])
  have c1_3 : w4.cell? ⟨w1.heap.size, 3, none⟩ = some (.int .i64 n) := (hb.cell (by first | assumption | (simp; done) | (simp; omega) | omega)).trans (by simp [go_sem, *])
  have f1_3 : w4.frozen? ⟨w1.heap.size, 3, none⟩ = false := (hb.frozen (by first | assumption | (simp; done) | (simp; omega) | omega)).trans (by simp [go_sem, *])
  have z1 : w1.heap.size < w4.heap.size := Nat.lt_of_lt_of_le (by first | assumption | (simp; done) | (simp; omega) | omega) hb.size
  have c2_0 : w4.cell? ⟨w2.heap.size, 0, none⟩ = some (.bool true) := (hb.cell (by first | assumption | (simp; done) | (simp; omega) | omega)).trans (by simp [go_sem, *])
  have f2_0 : w4.frozen? ⟨w2.heap.size, 0, none⟩ = false := (hb.frozen (by first | assumption | (simp; done) | (simp; omega) | omega)).trans (by simp [go_sem, *])
  have c2_1 : w4.cell? ⟨w2.heap.size, 1, none⟩ = some (.bool false) := (hb.cell (by first | assumption | (simp; done) | (simp; omega) | omega)).trans (by simp [go_sem, *])
  have f2_1 : w4.frozen? ⟨w2.heap.size, 1, none⟩ = false := (hb.frozen (by first | assumption | (simp; done) | (simp; omega) | omega)).trans (by simp [go_sem, *])
  have c2_2 : w4.cell? ⟨w2.heap.size, 2, none⟩ = some (.bool true) := (hb.cell (by first | assumption | (simp; done) | (simp; omega) | omega)).trans (by simp [go_sem, *])
  have f2_2 : w4.frozen? ⟨w2.heap.size, 2, none⟩ = false := (hb.frozen (by first | assumption | (simp; done) | (simp; omega) | omega)).trans (by simp [go_sem, *])
  have c2_3 : w4.cell? ⟨w2.heap.size, 3, none⟩ = some (.int .i64 n) := (hb.cell (by first | assumption | (simp; done) | (simp; omega) | omega)).trans (by simp [go_sem, *])
  have f2_3 : w4.frozen? ⟨w2.heap.size, 3, none⟩ = false := (hb.frozen (by first | assumption | (simp; done) | (simp; omega) | omega)).trans (by simp [go_sem, *])
  have z2 : w2.heap.size < w4.heap.size := Nat.lt_of_lt_of_le (by first | assumption | (simp; done) | (simp; omega) | omega) hb.size
  have hB_w4 : Below w.heap.size w w4 := bstep (by go_grown) hb
  have hs_w4 : w.heap.size ≤ w4.heap.size := hB_w4.size
  clear hb
  go_wp2_with fail
  refine (write_any _ _ _ _ _ _).mono ?_
  rintro e w5 ⟨rfl, hb⟩
  have c0_0 : w5.cell? ⟨w.heap.size, 0, none⟩ = some (.bool true) := (hb.cell (by first | assumption | (simp; done) | (simp; omega) | omega)).trans (by simp [go_sem, *])
  have f0_0 : w5.frozen? ⟨w.heap.size, 0, none⟩ = false := (hb.frozen (by first | assumption | (simp; done) | (simp; omega) | omega)).trans (by simp [go_sem, *])
  have c0_1 : w5.cell? ⟨w.heap.size, 1, none⟩ = some (.bool false) := (hb.cell (by first | assumption | (simp; done) | (simp; omega) | omega)).trans (by simp [go_sem, *])
  have f0_1 : w5.frozen? ⟨w.heap.size, 1, none⟩ = false := (hb.frozen (by first | assumption | (simp; done) | (simp; omega) | omega)).trans (by simp [go_sem, *])
  have c0_2 : w5.cell? ⟨w.heap.size, 2, none⟩ = some (.bool true) := (hb.cell (by first | assumption | (simp; done) | (simp; omega) | omega)).trans (by simp [go_sem, *])
  have f0_2 : w5.frozen? ⟨w.heap.size, 2, none⟩ = false := (hb.frozen (by first | assumption | (simp; done) | (simp; omega) | omega)).trans (by simp [go_sem, *])
  have c0_3 : w5.cell? ⟨w.heap.size, 3, none⟩ = some (.int .i64 n) := (hb.cell (by first | assumption | (simp; done) | (simp; omega) | omega)).trans (by simp [go_sem, *])
  have f0_3 : w5.frozen? ⟨w.heap.size, 3, none⟩ = false := (hb.frozen (by first | assumption | (simp; done) | (simp; omega) | omega)).trans (by simp [go_sem, *])
  have z0 : w.heap.size < w5.heap.size := Nat.lt_of_lt_of_le (by first | assumption | (simp; done) | (simp; omega) | omega) hb.size
  have c1_0 : w5.cell? ⟨w1.heap.size, 0, none⟩ = some (.bool true) := (hb.cell (by first | assumption | (simp; done) | (simp; omega) | omega)).trans (by simp [go_sem, *])
  have f1_0 : w5.frozen? ⟨w1.heap.size, 0, none⟩ = false := (hb.frozen (by first | assumption | (simp; done) | (simp; omega) | omega)).trans (by simp [go_sem, *])
  have c1_1 : w5.cell? ⟨w1.heap.size, 1, none⟩ = some (.bool false) := (hb.cell (by first | assumption | (simp; done) | (simp; omega) | omega)).trans (by simp [go_sem, *])
  have f1_1 : w5.frozen? ⟨w1.heap.size, 1, none⟩ = false := (hb.frozen (by first | assumption | (simp; done) | (simp; omega) | omega)).trans (by simp [go_sem, *])
  have c1_2 : w5.cell? ⟨w1.heap.size, 2, none⟩ = some (.bool true) := (hb.cell (by first | assumption | (simp; done) | (simp; omega) | omega)).trans (by simp [go_sem, *])
  have f1_2 : w5.frozen? ⟨w1.heap.size, 2, none⟩ = false := (hb.frozen (by first | assumption | (simp; done) | (simp; omega) | omega)).trans (by simp [go_sem, *])
  have c1_3 : w5.cell? ⟨w1.heap.size, 3, none⟩ = some (.int .i64 n) := (hb.cell (by first | assumption | (simp; done) | (simp; omega) | omega)).trans (by simp [go_sem, *])
  have f1_3 : w5.frozen? ⟨w1.heap.size, 3, none⟩ = false := (hb.frozen (by first | assumption | (simp; done) | (simp; omega) | omega)).trans (by simp [go_sem, *])
  have z1 : w1.heap.size < w5.heap.size := Nat.lt_of_lt_of_le (by first | assumption | (simp; done) | (simp; omega) | omega) hb.size
  have c2_0 : w5.cell? ⟨w2.heap.size, 0, none⟩ = some (.bool true) := (hb.cell (by first | assumption | (simp; done) | (simp; omega) | omega)).trans (by simp [go_sem, *])
  have f2_0 : w5.frozen? ⟨w2.heap.size, 0, none⟩ = false := (hb.frozen (by first | assumption | (simp; done) | (simp; omega) | omega)).trans (by simp [go_sem, *])
  have c2_1 : w5.cell? ⟨w2.heap.size, 1, none⟩ = some (.bool false) := (hb.cell (by first | assumption | (simp; done) | (simp; omega) | omega)).trans (by simp [go_sem, *])
  have f2_1 : w5.frozen? ⟨w2.heap.size, 1, none⟩ = false := (hb.frozen (by first | assumption | (simp; done) | (simp; omega) | omega)).trans (by simp [go_sem, *])
  have c2_2 : w5.cell? ⟨w2.heap.size, 2, none⟩ = some (.bool true) := (hb.cell (by first | assumption | (simp; done) | (simp; omega) | omega)).trans (by simp [go_sem, *])
  have f2_2 : w5.frozen? ⟨w2.heap.size, 2, none⟩ = false := (hb.frozen (by first | assumption | (simp; done) | (simp; omega) | omega)).trans (by simp [go_sem, *])
  have c2_3 : w5.cell? ⟨w2.heap.size, 3, none⟩ = some (.int .i64 n) := (hb.cell (by first | assumption | (simp; done) | (simp; omega) | omega)).trans (by simp [go_sem, *])
  have f2_3 : w5.frozen? ⟨w2.heap.size, 3, none⟩ = false := (hb.frozen (by first | assumption | (simp; done) | (simp; omega) | omega)).trans (by simp [go_sem, *])
  have z2 : w2.heap.size < w5.heap.size := Nat.lt_of_lt_of_le (by first | assumption | (simp; done) | (simp; omega) | omega) hb.size
  have c3_0 : w5.cell? ⟨w4.heap.size, 0, none⟩ = some (.bool true) := (hb.cell (by first | assumption | (simp; done) | (simp; omega) | omega)).trans (by simp [go_sem, *])
  have f3_0 : w5.frozen? ⟨w4.heap.size, 0, none⟩ = false := (hb.frozen (by first | assumption | (simp; done) | (simp; omega) | omega)).trans (by simp [go_sem, *])
  have c3_1 : w5.cell? ⟨w4.heap.size, 1, none⟩ = some (.bool false) := (hb.cell (by first | assumption | (simp; done) | (simp; omega) | omega)).trans (by simp [go_sem, *])
  have f3_1 : w5.frozen? ⟨w4.heap.size, 1, none⟩ = false := (hb.frozen (by first | assumption | (simp; done) | (simp; omega) | omega)).trans (by simp [go_sem, *])
  have c3_2 : w5.cell? ⟨w4.heap.size, 2, none⟩ = some (.bool false) := (hb.cell (by first | assumption | (simp; done) | (simp; omega) | omega)).trans (by simp [go_sem, *])
  have f3_2 : w5.frozen? ⟨w4.heap.size, 2, none⟩ = false := (hb.frozen (by first | assumption | (simp; done) | (simp; omega) | omega)).trans (by simp [go_sem, *])
  have c3_3 : w5.cell? ⟨w4.heap.size, 3, none⟩ = some (.int .i64 n) := (hb.cell (by first | assumption | (simp; done) | (simp; omega) | omega)).trans (by simp [go_sem, *])
  have f3_3 : w5.frozen? ⟨w4.heap.size, 3, none⟩ = false := (hb.frozen (by first | assumption | (simp; done) | (simp; omega) | omega)).trans (by simp [go_sem, *])
  have z3 : w4.heap.size < w5.heap.size := Nat.lt_of_lt_of_le (by first | assumption | (simp; done) | (simp; omega) | omega) hb.size
  have hB_w5 : Below w.heap.size w w5 := bstep (by go_grown) hb
  have hs_w5 : w.heap.size ≤ w5.heap.size := hB_w5.size
  clear hb
  go_wp2_with fail
  refine (awake_any _).mono ?_
  rintro e w9 ⟨rfl, hb⟩
  go_wp2
  go_returns
  exact ⟨by simp_all, bstep (by go_grown) hb⟩
end Go.Proofs.Ytldfgeipgjmjcaa
