/- Helper text of this seat (Laws): contracts of functions of the given program and of its references, each told by its theorem. -/
import Derived.Test.YtldfgeipgjmjcaaFns
namespace Go.Proofs.Ytldfgeipgjmjcaa
open Go.RowKit
set_option linter.unusedVariables false
set_option linter.unusedSimpArgs false
theorem f1 : fin true true false 5 1 = true := by decide
theorem f2 : wr true false true 5 2 = 3 := by decide
theorem f3 : wrE true false true 5 2 = 0 := by decide
theorem f4 : wr true false true 5 1 = 2 := by decide
theorem f5 : wrE true false true 5 1 = 0 := by decide
theorem f6 : wr true false false 5 1 = 0 := by decide
theorem f7 : wrE true false false 5 1 = 8 := by decide
set_option maxHeartbeats 2000000 in
theorem awake_any (w : World) :
    Calls Try.prog 10 #[] w fun e w' => e = .returned (.bool true) ∧ Below w.heap.size w w' := by
  have g2 := f2
  have g3 := f3
  have g4 := f4
  have g5 := f5
  have g6 := f6
  have g7 := f7
  go_enter Try.func10, Try.ntmps10
  go_wp2_with fail
  refine (fork_yes true true false 5 _ f1).mono ?_
  rintro e w1 ⟨rfl, hb⟩
  have hB_w1 : Below w.heap.size w w1 := bstep (by go_grown) hb
  have hs_w1 : w.heap.size ≤ w1.heap.size := hB_w1.size
  clear hb
  go_wp2_with fail
  refine (write_any _ _ _ _ _ _).mono ?_
  rintro e w2 ⟨rfl, hb⟩
  have c0_0 : w2.cell? ⟨w1.heap.size, 0, none⟩ = some (.bool true) := (hb.cell (by first | assumption | (simp; done) | (simp; omega) | omega)).trans (by simp [go_sem, *])
  have f0_0 : w2.frozen? ⟨w1.heap.size, 0, none⟩ = false := (hb.frozen (by first | assumption | (simp; done) | (simp; omega) | omega)).trans (by simp [go_sem, *])
  have c0_1 : w2.cell? ⟨w1.heap.size, 1, none⟩ = some (.bool false) := (hb.cell (by first | assumption | (simp; done) | (simp; omega) | omega)).trans (by simp [go_sem, *])
  have f0_1 : w2.frozen? ⟨w1.heap.size, 1, none⟩ = false := (hb.frozen (by first | assumption | (simp; done) | (simp; omega) | omega)).trans (by simp [go_sem, *])
  have c0_2 : w2.cell? ⟨w1.heap.size, 2, none⟩ = some (.bool true) := (hb.cell (by first | assumption | (simp; done) | (simp; omega) | omega)).trans (by simp [go_sem, *])
  have f0_2 : w2.frozen? ⟨w1.heap.size, 2, none⟩ = false := (hb.frozen (by first | assumption | (simp; done) | (simp; omega) | omega)).trans (by simp [go_sem, *])
  have c0_3 : w2.cell? ⟨w1.heap.size, 3, none⟩ = some (.int .i64 5) := (hb.cell (by first | assumption | (simp; done) | (simp; omega) | omega)).trans (by simp [go_sem, *])
  have f0_3 : w2.frozen? ⟨w1.heap.size, 3, none⟩ = false := (hb.frozen (by first | assumption | (simp; done) | (simp; omega) | omega)).trans (by simp [go_sem, *])
  have z0 : w1.heap.size < w2.heap.size := Nat.lt_of_lt_of_le (by first | assumption | (simp; done) | (simp; omega) | omega) hb.size
  have hB_w2 : Below w.heap.size w w2 := bstep (by go_grown) hb
  have hs_w2 : w.heap.size ≤ w2.heap.size := hB_w2.size
  clear hb
  go_wp2_with fail
  refine (write_any _ _ _ _ _ _).mono ?_
  rintro e w3 ⟨rfl, hb⟩
  have c0_0 : w3.cell? ⟨w1.heap.size, 0, none⟩ = some (.bool true) := (hb.cell (by first | assumption | (simp; done) | (simp; omega) | omega)).trans (by simp [go_sem, *])
  have f0_0 : w3.frozen? ⟨w1.heap.size, 0, none⟩ = false := (hb.frozen (by first | assumption | (simp; done) | (simp; omega) | omega)).trans (by simp [go_sem, *])
  have c0_1 : w3.cell? ⟨w1.heap.size, 1, none⟩ = some (.bool false) := (hb.cell (by first | assumption | (simp; done) | (simp; omega) | omega)).trans (by simp [go_sem, *])
  have f0_1 : w3.frozen? ⟨w1.heap.size, 1, none⟩ = false := (hb.frozen (by first | assumption | (simp; done) | (simp; omega) | omega)).trans (by simp [go_sem, *])
  have c0_2 : w3.cell? ⟨w1.heap.size, 2, none⟩ = some (.bool true) := (hb.cell (by first | assumption | (simp; done) | (simp; omega) | omega)).trans (by simp [go_sem, *])
  have f0_2 : w3.frozen? ⟨w1.heap.size, 2, none⟩ = false := (hb.frozen (by first | assumption | (simp; done) | (simp; omega) | omega)).trans (by simp [go_sem, *])
  have c0_3 : w3.cell? ⟨w1.heap.size, 3, none⟩ = some (.int .i64 5) := (hb.cell (by first | assumption | (simp; done) | (simp; omega) | omega)).trans (by simp [go_sem, *])
  have f0_3 : w3.frozen? ⟨w1.heap.size, 3, none⟩ = false := (hb.frozen (by first | assumption | (simp; done) | (simp; omega) | omega)).trans (by simp [go_sem, *])
  have z0 : w1.heap.size < w3.heap.size := Nat.lt_of_lt_of_le (by first | assumption | (simp; done) | (simp; omega) | omega) hb.size
  have hB_w3 : Below w.heap.size w w3 := bstep (by go_grown) hb
  have hs_w3 : w.heap.size ≤ w3.heap.size := hB_w3.size
  clear hb
  go_wp2_with fail
  refine (write_any _ _ _ _ _ _).mono ?_
  rintro e w4 ⟨rfl, hb⟩
  have c0_0 : w4.cell? ⟨w1.heap.size, 0, none⟩ = some (.bool true) := (hb.cell (by first | assumption | (simp; done) | (simp; omega) | omega)).trans (by simp [go_sem, *])
  have f0_0 : w4.frozen? ⟨w1.heap.size, 0, none⟩ = false := (hb.frozen (by first | assumption | (simp; done) | (simp; omega) | omega)).trans (by simp [go_sem, *])
  have c0_1 : w4.cell? ⟨w1.heap.size, 1, none⟩ = some (.bool false) := (hb.cell (by first | assumption | (simp; done) | (simp; omega) | omega)).trans (by simp [go_sem, *])
  have f0_1 : w4.frozen? ⟨w1.heap.size, 1, none⟩ = false := (hb.frozen (by first | assumption | (simp; done) | (simp; omega) | omega)).trans (by simp [go_sem, *])
  have c0_2 : w4.cell? ⟨w1.heap.size, 2, none⟩ = some (.bool true) := (hb.cell (by first | assumption | (simp; done) | (simp; omega) | omega)).trans (by simp [go_sem, *])
  have f0_2 : w4.frozen? ⟨w1.heap.size, 2, none⟩ = false := (hb.frozen (by first | assumption | (simp; done) | (simp; omega) | omega)).trans (by simp [go_sem, *])
  have c0_3 : w4.cell? ⟨w1.heap.size, 3, none⟩ = some (.int .i64 5) := (hb.cell (by first | assumption | (simp; done) | (simp; omega) | omega)).trans (by simp [go_sem, *])
  have f0_3 : w4.frozen? ⟨w1.heap.size, 3, none⟩ = false := (hb.frozen (by first | assumption | (simp; done) | (simp; omega) | omega)).trans (by simp [go_sem, *])
  have z0 : w1.heap.size < w4.heap.size := Nat.lt_of_lt_of_le (by first | assumption | (simp; done) | (simp; omega) | omega) hb.size
  have hB_w4 : Below w.heap.size w w4 := bstep (by go_grown) hb
  have hs_w4 : w.heap.size ≤ w4.heap.size := hB_w4.size
  clear hb
  go_wp2
  all_goals (go_returns; exact ⟨by simp_all, by go_grown⟩)
set_option maxHeartbeats 2000000 in
theorem CowFork_any (a b c : Bool) (n : Int) (w : World) :
    Calls Try.prog 3 #[.agg #[.bool a, .bool b, .bool c, .int .i64 n]] w fun e w' => e = .returned (.bool true) ∧ Below w.heap.size w w' := by
  cases h : fin a b c n 1
  · go_enter Try.func3, Try.ntmps3
    go_wp2_with fail
    refine (fork_no _ _ _ _ _ h).mono ?_
    rintro e w1 ⟨rfl, hb⟩
    have c0_0 : w1.cell? ⟨w.heap.size, 0, none⟩ = some (.bool a) := (hb.cell (by first | assumption | (simp; done) | (simp; omega) | omega)).trans (by simp [go_sem, *])
    have f0_0 : w1.frozen? ⟨w.heap.size, 0, none⟩ = false := (hb.frozen (by first | assumption | (simp; done) | (simp; omega) | omega)).trans (by simp [go_sem, *])
    have c0_1 : w1.cell? ⟨w.heap.size, 1, none⟩ = some (.bool b) := (hb.cell (by first | assumption | (simp; done) | (simp; omega) | omega)).trans (by simp [go_sem, *])
    have f0_1 : w1.frozen? ⟨w.heap.size, 1, none⟩ = false := (hb.frozen (by first | assumption | (simp; done) | (simp; omega) | omega)).trans (by simp [go_sem, *])
    have c0_2 : w1.cell? ⟨w.heap.size, 2, none⟩ = some (.bool c) := (hb.cell (by first | assumption | (simp; done) | (simp; omega) | omega)).trans (by simp [go_sem, *])
    have f0_2 : w1.frozen? ⟨w.heap.size, 2, none⟩ = false := (hb.frozen (by first | assumption | (simp; done) | (simp; omega) | omega)).trans (by simp [go_sem, *])
    have c0_3 : w1.cell? ⟨w.heap.size, 3, none⟩ = some (.int .i64 n) := (hb.cell (by first | assumption | (simp; done) | (simp; omega) | omega)).trans (by simp [go_sem, *])
    have f0_3 : w1.frozen? ⟨w.heap.size, 3, none⟩ = false := (hb.frozen (by first | assumption | (simp; done) | (simp; omega) | omega)).trans (by simp [go_sem, *])
    have z0 : w.heap.size < w1.heap.size := Nat.lt_of_lt_of_le (by first | assumption | (simp; done) | (simp; omega) | omega) hb.size
    have hB_w1 : Below w.heap.size w w1 := bstep (by go_grown) hb
    have hs_w1 : w.heap.size ≤ w1.heap.size := hB_w1.size
    clear hb
    go_wp2_with fail
    refine (rfork_no _ _ _ _ _ h).mono ?_
    rintro e w2 ⟨rfl, hb⟩
    have c0_0 : w2.cell? ⟨w.heap.size, 0, none⟩ = some (.bool a) := (hb.cell (by first | assumption | (simp; done) | (simp; omega) | omega)).trans (by simp [go_sem, *])
    have f0_0 : w2.frozen? ⟨w.heap.size, 0, none⟩ = false := (hb.frozen (by first | assumption | (simp; done) | (simp; omega) | omega)).trans (by simp [go_sem, *])
    have c0_1 : w2.cell? ⟨w.heap.size, 1, none⟩ = some (.bool b) := (hb.cell (by first | assumption | (simp; done) | (simp; omega) | omega)).trans (by simp [go_sem, *])
    have f0_1 : w2.frozen? ⟨w.heap.size, 1, none⟩ = false := (hb.frozen (by first | assumption | (simp; done) | (simp; omega) | omega)).trans (by simp [go_sem, *])
    have c0_2 : w2.cell? ⟨w.heap.size, 2, none⟩ = some (.bool c) := (hb.cell (by first | assumption | (simp; done) | (simp; omega) | omega)).trans (by simp [go_sem, *])
    have f0_2 : w2.frozen? ⟨w.heap.size, 2, none⟩ = false := (hb.frozen (by first | assumption | (simp; done) | (simp; omega) | omega)).trans (by simp [go_sem, *])
    have c0_3 : w2.cell? ⟨w.heap.size, 3, none⟩ = some (.int .i64 n) := (hb.cell (by first | assumption | (simp; done) | (simp; omega) | omega)).trans (by simp [go_sem, *])
    have f0_3 : w2.frozen? ⟨w.heap.size, 3, none⟩ = false := (hb.frozen (by first | assumption | (simp; done) | (simp; omega) | omega)).trans (by simp [go_sem, *])
    have z0 : w.heap.size < w2.heap.size := Nat.lt_of_lt_of_le (by first | assumption | (simp; done) | (simp; omega) | omega) hb.size
    have c1_0 : w2.cell? ⟨w1.heap.size, 0, none⟩ = some (.bool false) := (hb.cell (by first | assumption | (simp; done) | (simp; omega) | omega)).trans (by simp [go_sem, *])
    have f1_0 : w2.frozen? ⟨w1.heap.size, 0, none⟩ = false := (hb.frozen (by first | assumption | (simp; done) | (simp; omega) | omega)).trans (by simp [go_sem, *])
    have c1_1 : w2.cell? ⟨w1.heap.size, 1, none⟩ = some (.bool false) := (hb.cell (by first | assumption | (simp; done) | (simp; omega) | omega)).trans (by simp [go_sem, *])
    have f1_1 : w2.frozen? ⟨w1.heap.size, 1, none⟩ = false := (hb.frozen (by first | assumption | (simp; done) | (simp; omega) | omega)).trans (by simp [go_sem, *])
    have c1_2 : w2.cell? ⟨w1.heap.size, 2, none⟩ = some (.bool false) := (hb.cell (by first | assumption | (simp; done) | (simp; omega) | omega)).trans (by simp [go_sem, *])
    have f1_2 : w2.frozen? ⟨w1.heap.size, 2, none⟩ = false := (hb.frozen (by first | assumption | (simp; done) | (simp; omega) | omega)).trans (by simp [go_sem, *])
    have c1_3 : w2.cell? ⟨w1.heap.size, 3, none⟩ = some (.int .i64 0) := (hb.cell (by first | assumption | (simp; done) | (simp; omega) | omega)).trans (by simp [go_sem, *])
    have f1_3 : w2.frozen? ⟨w1.heap.size, 3, none⟩ = false := (hb.frozen (by first | assumption | (simp; done) | (simp; omega) | omega)).trans (by simp [go_sem, *])
    have z1 : w1.heap.size < w2.heap.size := Nat.lt_of_lt_of_le (by first | assumption | (simp; done) | (simp; omega) | omega) hb.size
    have hB_w2 : Below w.heap.size w w2 := bstep (by go_grown) hb
    have hs_w2 : w.heap.size ≤ w2.heap.size := hB_w2.size
    clear hb
    go_wp2_with fail
    refine (awake_any _).mono ?_
    rintro e w3 ⟨rfl, hb⟩
    go_wp2
    go_returns
    exact ⟨by simp_all, bstep (by go_grown) hb⟩
  · go_enter Try.func3, Try.ntmps3
    go_wp2_with fail
    refine (fork_yes _ _ _ _ _ h).mono ?_
    rintro e w1 ⟨rfl, hb⟩
    have c0_0 : w1.cell? ⟨w.heap.size, 0, none⟩ = some (.bool a) := (hb.cell (by first | assumption | (simp; done) | (simp; omega) | omega)).trans (by simp [go_sem, *])
    have f0_0 : w1.frozen? ⟨w.heap.size, 0, none⟩ = false := (hb.frozen (by first | assumption | (simp; done) | (simp; omega) | omega)).trans (by simp [go_sem, *])
    have c0_1 : w1.cell? ⟨w.heap.size, 1, none⟩ = some (.bool b) := (hb.cell (by first | assumption | (simp; done) | (simp; omega) | omega)).trans (by simp [go_sem, *])
    have f0_1 : w1.frozen? ⟨w.heap.size, 1, none⟩ = false := (hb.frozen (by first | assumption | (simp; done) | (simp; omega) | omega)).trans (by simp [go_sem, *])
    have c0_2 : w1.cell? ⟨w.heap.size, 2, none⟩ = some (.bool c) := (hb.cell (by first | assumption | (simp; done) | (simp; omega) | omega)).trans (by simp [go_sem, *])
    have f0_2 : w1.frozen? ⟨w.heap.size, 2, none⟩ = false := (hb.frozen (by first | assumption | (simp; done) | (simp; omega) | omega)).trans (by simp [go_sem, *])
    have c0_3 : w1.cell? ⟨w.heap.size, 3, none⟩ = some (.int .i64 n) := (hb.cell (by first | assumption | (simp; done) | (simp; omega) | omega)).trans (by simp [go_sem, *])
    have f0_3 : w1.frozen? ⟨w.heap.size, 3, none⟩ = false := (hb.frozen (by first | assumption | (simp; done) | (simp; omega) | omega)).trans (by simp [go_sem, *])
    have z0 : w.heap.size < w1.heap.size := Nat.lt_of_lt_of_le (by first | assumption | (simp; done) | (simp; omega) | omega) hb.size
    have hB_w1 : Below w.heap.size w w1 := bstep (by go_grown) hb
    have hs_w1 : w.heap.size ≤ w1.heap.size := hB_w1.size
    clear hb
    go_wp2_with fail
    refine (rfork_yes _ _ _ _ _ h).mono ?_
    rintro e w2 ⟨rfl, hb⟩
    have c0_0 : w2.cell? ⟨w.heap.size, 0, none⟩ = some (.bool a) := (hb.cell (by first | assumption | (simp; done) | (simp; omega) | omega)).trans (by simp [go_sem, *])
    have f0_0 : w2.frozen? ⟨w.heap.size, 0, none⟩ = false := (hb.frozen (by first | assumption | (simp; done) | (simp; omega) | omega)).trans (by simp [go_sem, *])
    have c0_1 : w2.cell? ⟨w.heap.size, 1, none⟩ = some (.bool b) := (hb.cell (by first | assumption | (simp; done) | (simp; omega) | omega)).trans (by simp [go_sem, *])
    have f0_1 : w2.frozen? ⟨w.heap.size, 1, none⟩ = false := (hb.frozen (by first | assumption | (simp; done) | (simp; omega) | omega)).trans (by simp [go_sem, *])
    have c0_2 : w2.cell? ⟨w.heap.size, 2, none⟩ = some (.bool c) := (hb.cell (by first | assumption | (simp; done) | (simp; omega) | omega)).trans (by simp [go_sem, *])
    have f0_2 : w2.frozen? ⟨w.heap.size, 2, none⟩ = false := (hb.frozen (by first | assumption | (simp; done) | (simp; omega) | omega)).trans (by simp [go_sem, *])
    have c0_3 : w2.cell? ⟨w.heap.size, 3, none⟩ = some (.int .i64 n) := (hb.cell (by first | assumption | (simp; done) | (simp; omega) | omega)).trans (by simp [go_sem, *])
    have f0_3 : w2.frozen? ⟨w.heap.size, 3, none⟩ = false := (hb.frozen (by first | assumption | (simp; done) | (simp; omega) | omega)).trans (by simp [go_sem, *])
    have z0 : w.heap.size < w2.heap.size := Nat.lt_of_lt_of_le (by first | assumption | (simp; done) | (simp; omega) | omega) hb.size
    have c1_0 : w2.cell? ⟨w1.heap.size, 0, none⟩ = some (.bool true) := (hb.cell (by first | assumption | (simp; done) | (simp; omega) | omega)).trans (by simp [go_sem, *])
    have f1_0 : w2.frozen? ⟨w1.heap.size, 0, none⟩ = false := (hb.frozen (by first | assumption | (simp; done) | (simp; omega) | omega)).trans (by simp [go_sem, *])
    have c1_1 : w2.cell? ⟨w1.heap.size, 1, none⟩ = some (.bool false) := (hb.cell (by first | assumption | (simp; done) | (simp; omega) | omega)).trans (by simp [go_sem, *])
    have f1_1 : w2.frozen? ⟨w1.heap.size, 1, none⟩ = false := (hb.frozen (by first | assumption | (simp; done) | (simp; omega) | omega)).trans (by simp [go_sem, *])
    have c1_2 : w2.cell? ⟨w1.heap.size, 2, none⟩ = some (.bool (c || b)) := (hb.cell (by first | assumption | (simp; done) | (simp; omega) | omega)).trans (by simp [go_sem, *])
    have f1_2 : w2.frozen? ⟨w1.heap.size, 2, none⟩ = false := (hb.frozen (by first | assumption | (simp; done) | (simp; omega) | omega)).trans (by simp [go_sem, *])
    have c1_3 : w2.cell? ⟨w1.heap.size, 3, none⟩ = some (.int .i64 n) := (hb.cell (by first | assumption | (simp; done) | (simp; omega) | omega)).trans (by simp [go_sem, *])
    have f1_3 : w2.frozen? ⟨w1.heap.size, 3, none⟩ = false := (hb.frozen (by first | assumption | (simp; done) | (simp; omega) | omega)).trans (by simp [go_sem, *])
    have z1 : w1.heap.size < w2.heap.size := Nat.lt_of_lt_of_le (by first | assumption | (simp; done) | (simp; omega) | omega) hb.size
    have hB_w2 : Below w.heap.size w w2 := bstep (by go_grown) hb
    have hs_w2 : w.heap.size ≤ w2.heap.size := hB_w2.size
    clear hb
    go_wp2_with fail
    refine (awake_any _).mono ?_
    rintro e w3 ⟨rfl, hb⟩
    go_wp2
    go_returns
    exact ⟨by simp_all, bstep (by go_grown) hb⟩
set_option maxHeartbeats 2000000 in
theorem CowWrite_any (a b c : Bool) (n k : Int) (w : World) :
    Calls Try.prog 4 #[.agg #[.bool a, .bool b, .bool c, .int .i64 n], .int .i64 k] w fun e w' => e = .returned (.bool true) ∧ Below w.heap.size w w' := by
  go_enter Try.func4, Try.ntmps4
  go_wp2_with fail
  refine (write_any _ _ _ _ _ _).mono ?_
  rintro e w1 ⟨rfl, hb⟩
  have c0_0 : w1.cell? ⟨w.heap.size, 0, none⟩ = some (.bool a) := (hb.cell (by first | assumption | (simp; done) | (simp; omega) | omega)).trans (by simp [go_sem, *])
  have f0_0 : w1.frozen? ⟨w.heap.size, 0, none⟩ = false := (hb.frozen (by first | assumption | (simp; done) | (simp; omega) | omega)).trans (by simp [go_sem, *])
  have c0_1 : w1.cell? ⟨w.heap.size, 1, none⟩ = some (.bool b) := (hb.cell (by first | assumption | (simp; done) | (simp; omega) | omega)).trans (by simp [go_sem, *])
  have f0_1 : w1.frozen? ⟨w.heap.size, 1, none⟩ = false := (hb.frozen (by first | assumption | (simp; done) | (simp; omega) | omega)).trans (by simp [go_sem, *])
  have c0_2 : w1.cell? ⟨w.heap.size, 2, none⟩ = some (.bool c) := (hb.cell (by first | assumption | (simp; done) | (simp; omega) | omega)).trans (by simp [go_sem, *])
  have f0_2 : w1.frozen? ⟨w.heap.size, 2, none⟩ = false := (hb.frozen (by first | assumption | (simp; done) | (simp; omega) | omega)).trans (by simp [go_sem, *])
  have c0_3 : w1.cell? ⟨w.heap.size, 3, none⟩ = some (.int .i64 n) := (hb.cell (by first | assumption | (simp; done) | (simp; omega) | omega)).trans (by simp [go_sem, *])
  have f0_3 : w1.frozen? ⟨w.heap.size, 3, none⟩ = false := (hb.frozen (by first | assumption | (simp; done) | (simp; omega) | omega)).trans (by simp [go_sem, *])
  have z0 : w.heap.size < w1.heap.size := Nat.lt_of_lt_of_le (by first | assumption | (simp; done) | (simp; omega) | omega) hb.size
  have hB_w1 : Below w.heap.size w w1 := bstep (by go_grown) hb
  have hs_w1 : w.heap.size ≤ w1.heap.size := hB_w1.size
  clear hb
  go_wp2_with fail
  refine (rwrite_any _ _ _ _ _ _).mono ?_
  rintro e w2 ⟨rfl, hb⟩
  have hB_w2 : Below w.heap.size w w2 := bstep (by go_grown) hb
  have hs_w2 : w.heap.size ≤ w2.heap.size := hB_w2.size
  clear hb
  go_wp2_with fail
  refine (awake_any _).mono ?_
  rintro e w3 ⟨rfl, hb⟩
  go_wp2
  go_returns
  exact ⟨by simp_all, bstep (by go_grown) hb⟩
set_option maxHeartbeats 2000000 in
theorem CowSet_any (a b c : Bool) (n k : Int) (x : Bool) (w : World) :
    Calls Try.prog 5 #[.agg #[.bool a, .bool b, .bool c, .int .i64 n], .int .i64 k, .bool x] w fun e w' => e = .returned (.bool true) ∧ Below w.heap.size w w' := by
  cases h : fin a b c n k
  · go_enter Try.func5, Try.ntmps5
    go_wp2_with fail
    refine (set_no _ _ _ _ _ _ _ h).mono ?_
    rintro e w1 ⟨rfl, hb⟩
    have c0_0 : w1.cell? ⟨w.heap.size, 0, none⟩ = some (.bool a) := (hb.cell (by first | assumption | (simp; done) | (simp; omega) | omega)).trans (by simp [go_sem, *])
    have f0_0 : w1.frozen? ⟨w.heap.size, 0, none⟩ = false := (hb.frozen (by first | assumption | (simp; done) | (simp; omega) | omega)).trans (by simp [go_sem, *])
    have c0_1 : w1.cell? ⟨w.heap.size, 1, none⟩ = some (.bool b) := (hb.cell (by first | assumption | (simp; done) | (simp; omega) | omega)).trans (by simp [go_sem, *])
    have f0_1 : w1.frozen? ⟨w.heap.size, 1, none⟩ = false := (hb.frozen (by first | assumption | (simp; done) | (simp; omega) | omega)).trans (by simp [go_sem, *])
    have c0_2 : w1.cell? ⟨w.heap.size, 2, none⟩ = some (.bool c) := (hb.cell (by first | assumption | (simp; done) | (simp; omega) | omega)).trans (by simp [go_sem, *])
    have f0_2 : w1.frozen? ⟨w.heap.size, 2, none⟩ = false := (hb.frozen (by first | assumption | (simp; done) | (simp; omega) | omega)).trans (by simp [go_sem, *])
    have c0_3 : w1.cell? ⟨w.heap.size, 3, none⟩ = some (.int .i64 n) := (hb.cell (by first | assumption | (simp; done) | (simp; omega) | omega)).trans (by simp [go_sem, *])
    have f0_3 : w1.frozen? ⟨w.heap.size, 3, none⟩ = false := (hb.frozen (by first | assumption | (simp; done) | (simp; omega) | omega)).trans (by simp [go_sem, *])
    have z0 : w.heap.size < w1.heap.size := Nat.lt_of_lt_of_le (by first | assumption | (simp; done) | (simp; omega) | omega) hb.size
    have hB_w1 : Below w.heap.size w w1 := bstep (by go_grown) hb
    have hs_w1 : w.heap.size ≤ w1.heap.size := hB_w1.size
    clear hb
    go_wp2_with fail
    refine (rset_no _ _ _ _ _ _ _ h).mono ?_
    rintro e w2 ⟨rfl, hb⟩
    have c0_0 : w2.cell? ⟨w.heap.size, 0, none⟩ = some (.bool a) := (hb.cell (by first | assumption | (simp; done) | (simp; omega) | omega)).trans (by simp [go_sem, *])
    have f0_0 : w2.frozen? ⟨w.heap.size, 0, none⟩ = false := (hb.frozen (by first | assumption | (simp; done) | (simp; omega) | omega)).trans (by simp [go_sem, *])
    have c0_1 : w2.cell? ⟨w.heap.size, 1, none⟩ = some (.bool b) := (hb.cell (by first | assumption | (simp; done) | (simp; omega) | omega)).trans (by simp [go_sem, *])
    have f0_1 : w2.frozen? ⟨w.heap.size, 1, none⟩ = false := (hb.frozen (by first | assumption | (simp; done) | (simp; omega) | omega)).trans (by simp [go_sem, *])
    have c0_2 : w2.cell? ⟨w.heap.size, 2, none⟩ = some (.bool c) := (hb.cell (by first | assumption | (simp; done) | (simp; omega) | omega)).trans (by simp [go_sem, *])
    have f0_2 : w2.frozen? ⟨w.heap.size, 2, none⟩ = false := (hb.frozen (by first | assumption | (simp; done) | (simp; omega) | omega)).trans (by simp [go_sem, *])
    have c0_3 : w2.cell? ⟨w.heap.size, 3, none⟩ = some (.int .i64 n) := (hb.cell (by first | assumption | (simp; done) | (simp; omega) | omega)).trans (by simp [go_sem, *])
    have f0_3 : w2.frozen? ⟨w.heap.size, 3, none⟩ = false := (hb.frozen (by first | assumption | (simp; done) | (simp; omega) | omega)).trans (by simp [go_sem, *])
    have z0 : w.heap.size < w2.heap.size := Nat.lt_of_lt_of_le (by first | assumption | (simp; done) | (simp; omega) | omega) hb.size
    have c1_0 : w2.cell? ⟨w1.heap.size, 0, none⟩ = some (.bool false) := (hb.cell (by first | assumption | (simp; done) | (simp; omega) | omega)).trans (by simp [go_sem, *])
    have f1_0 : w2.frozen? ⟨w1.heap.size, 0, none⟩ = false := (hb.frozen (by first | assumption | (simp; done) | (simp; omega) | omega)).trans (by simp [go_sem, *])
    have c1_1 : w2.cell? ⟨w1.heap.size, 1, none⟩ = some (.bool false) := (hb.cell (by first | assumption | (simp; done) | (simp; omega) | omega)).trans (by simp [go_sem, *])
    have f1_1 : w2.frozen? ⟨w1.heap.size, 1, none⟩ = false := (hb.frozen (by first | assumption | (simp; done) | (simp; omega) | omega)).trans (by simp [go_sem, *])
    have c1_2 : w2.cell? ⟨w1.heap.size, 2, none⟩ = some (.bool false) := (hb.cell (by first | assumption | (simp; done) | (simp; omega) | omega)).trans (by simp [go_sem, *])
    have f1_2 : w2.frozen? ⟨w1.heap.size, 2, none⟩ = false := (hb.frozen (by first | assumption | (simp; done) | (simp; omega) | omega)).trans (by simp [go_sem, *])
    have c1_3 : w2.cell? ⟨w1.heap.size, 3, none⟩ = some (.int .i64 0) := (hb.cell (by first | assumption | (simp; done) | (simp; omega) | omega)).trans (by simp [go_sem, *])
    have f1_3 : w2.frozen? ⟨w1.heap.size, 3, none⟩ = false := (hb.frozen (by first | assumption | (simp; done) | (simp; omega) | omega)).trans (by simp [go_sem, *])
    have z1 : w1.heap.size < w2.heap.size := Nat.lt_of_lt_of_le (by first | assumption | (simp; done) | (simp; omega) | omega) hb.size
    have hB_w2 : Below w.heap.size w w2 := bstep (by go_grown) hb
    have hs_w2 : w.heap.size ≤ w2.heap.size := hB_w2.size
    clear hb
    go_wp2_with fail
    refine (awake_any _).mono ?_
    rintro e w3 ⟨rfl, hb⟩
    go_wp2
    go_returns
    exact ⟨by simp_all, bstep (by go_grown) hb⟩
  · go_enter Try.func5, Try.ntmps5
    go_wp2_with fail
    refine (set_yes _ _ _ _ _ _ _ h).mono ?_
    rintro e w1 ⟨rfl, hb⟩
    have c0_0 : w1.cell? ⟨w.heap.size, 0, none⟩ = some (.bool a) := (hb.cell (by first | assumption | (simp; done) | (simp; omega) | omega)).trans (by simp [go_sem, *])
    have f0_0 : w1.frozen? ⟨w.heap.size, 0, none⟩ = false := (hb.frozen (by first | assumption | (simp; done) | (simp; omega) | omega)).trans (by simp [go_sem, *])
    have c0_1 : w1.cell? ⟨w.heap.size, 1, none⟩ = some (.bool b) := (hb.cell (by first | assumption | (simp; done) | (simp; omega) | omega)).trans (by simp [go_sem, *])
    have f0_1 : w1.frozen? ⟨w.heap.size, 1, none⟩ = false := (hb.frozen (by first | assumption | (simp; done) | (simp; omega) | omega)).trans (by simp [go_sem, *])
    have c0_2 : w1.cell? ⟨w.heap.size, 2, none⟩ = some (.bool c) := (hb.cell (by first | assumption | (simp; done) | (simp; omega) | omega)).trans (by simp [go_sem, *])
    have f0_2 : w1.frozen? ⟨w.heap.size, 2, none⟩ = false := (hb.frozen (by first | assumption | (simp; done) | (simp; omega) | omega)).trans (by simp [go_sem, *])
    have c0_3 : w1.cell? ⟨w.heap.size, 3, none⟩ = some (.int .i64 n) := (hb.cell (by first | assumption | (simp; done) | (simp; omega) | omega)).trans (by simp [go_sem, *])
    have f0_3 : w1.frozen? ⟨w.heap.size, 3, none⟩ = false := (hb.frozen (by first | assumption | (simp; done) | (simp; omega) | omega)).trans (by simp [go_sem, *])
    have z0 : w.heap.size < w1.heap.size := Nat.lt_of_lt_of_le (by first | assumption | (simp; done) | (simp; omega) | omega) hb.size
    have hB_w1 : Below w.heap.size w w1 := bstep (by go_grown) hb
    have hs_w1 : w.heap.size ≤ w1.heap.size := hB_w1.size
    clear hb
    go_wp2_with fail
    refine (rset_yes _ _ _ _ _ _ _ h).mono ?_
    rintro e w2 ⟨rfl, hb⟩
    have c0_0 : w2.cell? ⟨w.heap.size, 0, none⟩ = some (.bool a) := (hb.cell (by first | assumption | (simp; done) | (simp; omega) | omega)).trans (by simp [go_sem, *])
    have f0_0 : w2.frozen? ⟨w.heap.size, 0, none⟩ = false := (hb.frozen (by first | assumption | (simp; done) | (simp; omega) | omega)).trans (by simp [go_sem, *])
    have c0_1 : w2.cell? ⟨w.heap.size, 1, none⟩ = some (.bool b) := (hb.cell (by first | assumption | (simp; done) | (simp; omega) | omega)).trans (by simp [go_sem, *])
    have f0_1 : w2.frozen? ⟨w.heap.size, 1, none⟩ = false := (hb.frozen (by first | assumption | (simp; done) | (simp; omega) | omega)).trans (by simp [go_sem, *])
    have c0_2 : w2.cell? ⟨w.heap.size, 2, none⟩ = some (.bool c) := (hb.cell (by first | assumption | (simp; done) | (simp; omega) | omega)).trans (by simp [go_sem, *])
    have f0_2 : w2.frozen? ⟨w.heap.size, 2, none⟩ = false := (hb.frozen (by first | assumption | (simp; done) | (simp; omega) | omega)).trans (by simp [go_sem, *])
    have c0_3 : w2.cell? ⟨w.heap.size, 3, none⟩ = some (.int .i64 n) := (hb.cell (by first | assumption | (simp; done) | (simp; omega) | omega)).trans (by simp [go_sem, *])
    have f0_3 : w2.frozen? ⟨w.heap.size, 3, none⟩ = false := (hb.frozen (by first | assumption | (simp; done) | (simp; omega) | omega)).trans (by simp [go_sem, *])
    have z0 : w.heap.size < w2.heap.size := Nat.lt_of_lt_of_le (by first | assumption | (simp; done) | (simp; omega) | omega) hb.size
    have c1_0 : w2.cell? ⟨w1.heap.size, 0, none⟩ = some (.bool true) := (hb.cell (by first | assumption | (simp; done) | (simp; omega) | omega)).trans (by simp [go_sem, *])
    have f1_0 : w2.frozen? ⟨w1.heap.size, 0, none⟩ = false := (hb.frozen (by first | assumption | (simp; done) | (simp; omega) | omega)).trans (by simp [go_sem, *])
    have c1_1 : w2.cell? ⟨w1.heap.size, 1, none⟩ = some (.bool (x && k == 1)) := (hb.cell (by first | assumption | (simp; done) | (simp; omega) | omega)).trans (by simp [go_sem, *])
    have f1_1 : w2.frozen? ⟨w1.heap.size, 1, none⟩ = false := (hb.frozen (by first | assumption | (simp; done) | (simp; omega) | omega)).trans (by simp [go_sem, *])
    have c1_2 : w2.cell? ⟨w1.heap.size, 2, none⟩ = some (.bool (x && decide (1 < k))) := (hb.cell (by first | assumption | (simp; done) | (simp; omega) | omega)).trans (by simp [go_sem, *])
    have f1_2 : w2.frozen? ⟨w1.heap.size, 2, none⟩ = false := (hb.frozen (by first | assumption | (simp; done) | (simp; omega) | omega)).trans (by simp [go_sem, *])
    have c1_3 : w2.cell? ⟨w1.heap.size, 3, none⟩ = some (.int .i64 n) := (hb.cell (by first | assumption | (simp; done) | (simp; omega) | omega)).trans (by simp [go_sem, *])
    have f1_3 : w2.frozen? ⟨w1.heap.size, 3, none⟩ = false := (hb.frozen (by first | assumption | (simp; done) | (simp; omega) | omega)).trans (by simp [go_sem, *])
    have z1 : w1.heap.size < w2.heap.size := Nat.lt_of_lt_of_le (by first | assumption | (simp; done) | (simp; omega) | omega) hb.size
    have hB_w2 : Below w.heap.size w w2 := bstep (by go_grown) hb
    have hs_w2 : w.heap.size ≤ w2.heap.size := hB_w2.size
    clear hb
    go_wp2_with fail
    refine (awake_any _).mono ?_
    rintro e w3 ⟨rfl, hb⟩
    go_wp2
    go_returns
    exact ⟨by simp_all, bstep (by go_grown) hb⟩
end Go.Proofs.Ytldfgeipgjmjcaa
