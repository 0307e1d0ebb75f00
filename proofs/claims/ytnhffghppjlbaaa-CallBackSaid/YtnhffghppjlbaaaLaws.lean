/- Helper text of this seat (Laws): contracts of functions of the given program and of its references, each told by its theorem. -/
import Derived.Test.YtnhffghppjlbaaaTold
import Derived.Deep.RegionHeld3
import Derived.Test.YtnhffghppjlbaaaEqArr
namespace Go.Proofs.Ytnhffghppjlbaaa
open Go.RowKit
set_option linter.unusedVariables false
set_option linter.unusedSimpArgs false
theorem eq_words (a0 a1 a2 a3 a4 a5 a6 a7 b0 b1 b2 b3 b4 b5 b6 b7 : Int) (w : World) :
    (Op.equalIn 10000 24 (.agg #[.int .u32 a0, .int .u32 a1, .int .u32 a2, .int .u32 a3, .int .u32 a4, .int .u32 a5, .int .u32 a6, .int .u32 a7]) (.agg #[.int .u32 b0, .int .u32 b1, .int .u32 b2, .int .u32 b3, .int .u32 b4, .int .u32 b5, .int .u32 b6, .int .u32 b7])).run Try.prog w
      = .ok (decide ([a0, a1, a2, a3, a4, a5, a6, a7] = [b0, b1, b2, b3, b4, b5, b6, b7])) w :=
  run_eq_ints w 9998 24 23 .u32 [a0, a1, a2, a3, a4, a5, a6, a7] [b0, b1, b2, b3, b4, b5, b6, b7] Try.underlying24 (by kernel_rfl) Try.underlying23 rfl
/-- eight registers -/
def rf (a0 a1 a2 a3 a4 a5 a6 a7 : Int) (i : Nat) : Int := [a0, a1, a2, a3, a4, a5, a6, a7].getD i 0
theorem words_rf {a0 a1 a2 a3 a4 a5 a6 a7 : Int} (h0 : 0 ≤ a0 ∧ a0 < 4294967296) (h1 : 0 ≤ a1 ∧ a1 < 4294967296) (h2 : 0 ≤ a2 ∧ a2 < 4294967296) (h3 : 0 ≤ a3 ∧ a3 < 4294967296) (h4 : 0 ≤ a4 ∧ a4 < 4294967296) (h5 : 0 ≤ a5 ∧ a5 < 4294967296) (h6 : 0 ≤ a6 ∧ a6 < 4294967296) (h7 : 0 ≤ a7 ∧ a7 < 4294967296) : Words (rf a0 a1 a2 a3 a4 a5 a6 a7) := by
  intro i
  match i with
  | 0 => exact h0
  | 1 => exact h1
  | 2 => exact h2
  | 3 => exact h3
  | 4 => exact h4
  | 5 => exact h5
  | 6 => exact h6
  | 7 => exact h7
  | n + 8 => simp [rf]
theorem read_l {a0 a1 a2 a3 a4 a5 a6 a7 : Int} (hr : Words (rf a0 a1 a2 a3 a4 a5 a6 a7)) (w : World) :
    Calls Try.prog 8 #[.agg #[.int .u32 a0, .int .u32 a1, .int .u32 a2, .int .u32 a3, .int .u32 a4, .int .u32 a5, .int .u32 a6, .int .u32 a7]] w fun e w' => e = .returned (.tuple #[.agg #[.int .i64 (sNo (rf a0 a1 a2 a3 a4 a5 a6 a7)), .int .i64 (sA (rf a0 a1 a2 a3 a4 a5 a6 a7)), .int .i64 (sB (rf a0 a1 a2 a3 a4 a5 a6 a7)), .int .u32 (sC (rf a0 a1 a2 a3 a4 a5 a6 a7)), .bool (sW (rf a0 a1 a2 a3 a4 a5 a6 a7))], .int .i64 (sE (rf a0 a1 a2 a3 a4 a5 a6 a7))]) ∧ Below w.heap.size w w' :=
  read_any _ hr w
/-- at given numbers, what is read told by hand -/
theorem read_g {a0 a1 a2 a3 a4 a5 a6 a7 : Int} (hr : Words (rf a0 a1 a2 a3 a4 a5 a6 a7)) (w : World) (n a b c : Int) (x : Bool) (e : Int)
    (hn : sNo (rf a0 a1 a2 a3 a4 a5 a6 a7) = n) (ha : sA (rf a0 a1 a2 a3 a4 a5 a6 a7) = a) (hb : sB (rf a0 a1 a2 a3 a4 a5 a6 a7) = b) (hc : sC (rf a0 a1 a2 a3 a4 a5 a6 a7) = c) (hx : sW (rf a0 a1 a2 a3 a4 a5 a6 a7) = x) (he : sE (rf a0 a1 a2 a3 a4 a5 a6 a7) = e) :
    Calls Try.prog 8 #[.agg #[.int .u32 a0, .int .u32 a1, .int .u32 a2, .int .u32 a3, .int .u32 a4, .int .u32 a5, .int .u32 a6, .int .u32 a7]] w fun e' w' => e' = .returned (.tuple #[.agg #[.int .i64 n, .int .i64 a, .int .i64 b, .int .u32 c, .bool x], .int .i64 e]) ∧ Below w.heap.size w w' := by
  subst hn ha hb hc hx he
  exact read_any _ hr w
theorem g1 (w : World) : Calls Try.prog 8 #[.agg #[.int .u32 3, .int .u32 5, .int .u32 2, .int .u32 1, .int .u32 0, .int .u32 0, .int .u32 0, .int .u32 0]] w fun e w' => e = .returned (.tuple #[.agg #[.int .i64 3, .int .i64 5, .int .i64 2, .int .u32 0, .bool true], .int .i64 0]) ∧ Below w.heap.size w w' :=
  read_g (words_rf (a0 := 3) (a1 := 5) (a2 := 2) (a3 := 1) (a4 := 0) (a5 := 0) (a6 := 0) (a7 := 0) (by omega) (by omega) (by omega) (by omega) (by omega) (by omega) (by omega) (by omega)) w 3 5 2 0 true 0 (by decide) (by decide) (by decide) (by decide) (by decide) (by decide)
theorem g2 (w : World) : Calls Try.prog 8 #[.agg #[.int .u32 3, .int .u32 5, .int .u32 2, .int .u32 2, .int .u32 0, .int .u32 0, .int .u32 0, .int .u32 0]] w fun e w' => e = .returned (.tuple #[.agg #[.int .i64 0, .int .i64 0, .int .i64 0, .int .u32 0, .bool false], .int .i64 2]) ∧ Below w.heap.size w w' :=
  read_g (words_rf (a0 := 3) (a1 := 5) (a2 := 2) (a3 := 2) (a4 := 0) (a5 := 0) (a6 := 0) (a7 := 0) (by omega) (by omega) (by omega) (by omega) (by omega) (by omega) (by omega) (by omega)) w 0 0 0 0 false 2 (by decide) (by decide) (by decide) (by decide) (by decide) (by decide)
theorem g3 (w : World) : Calls Try.prog 8 #[.agg #[.int .u32 13, .int .u32 0, .int .u32 0, .int .u32 0, .int .u32 0, .int .u32 0, .int .u32 0, .int .u32 0]] w fun e w' => e = .returned (.tuple #[.agg #[.int .i64 0, .int .i64 0, .int .i64 0, .int .u32 0, .bool false], .int .i64 10]) ∧ Below w.heap.size w w' :=
  read_g (words_rf (a0 := 13) (a1 := 0) (a2 := 0) (a3 := 0) (a4 := 0) (a5 := 0) (a6 := 0) (a7 := 0) (by omega) (by omega) (by omega) (by omega) (by omega) (by omega) (by omega) (by omega)) w 0 0 0 0 false 10 (by decide) (by decide) (by decide) (by decide) (by decide) (by decide)
theorem g4 (w : World) : Calls Try.prog 8 #[.agg #[.int .u32 11, .int .u32 0, .int .u32 64, .int .u32 3, .int .u32 0, .int .u32 0, .int .u32 0, .int .u32 0]] w fun e w' => e = .returned (.tuple #[.agg #[.int .i64 11, .int .i64 0, .int .i64 3, .int .u32 64, .bool false], .int .i64 0]) ∧ Below w.heap.size w w' :=
  read_g (words_rf (a0 := 11) (a1 := 0) (a2 := 64) (a3 := 3) (a4 := 0) (a5 := 0) (a6 := 0) (a7 := 0) (by omega) (by omega) (by omega) (by omega) (by omega) (by omega) (by omega) (by omega)) w 11 0 3 64 false 0 (by decide) (by decide) (by decide) (by decide) (by decide) (by decide)
set_option maxHeartbeats 2000000 in
theorem awake_any (w : World) :
    Calls Try.prog 9 #[] w fun e w' => e = .returned (.bool true) ∧ Below w.heap.size w w' := by
  go_enter Try.func9, Try.ntmps9
  go_wp2_with fail
  refine (g1 _).mono ?_
  rintro e w1 ⟨rfl, hb⟩
  have hB_w1 : Below w.heap.size w w1 := bstep (by go_grown) hb
  have hs_w1 : w.heap.size ≤ w1.heap.size := hB_w1.size
  clear hb
  go_wp2_with fail
  refine (g2 _).mono ?_
  rintro e w2 ⟨rfl, hb⟩
  have c0_0 : w2.cell? ⟨w1.heap.size, 0, none⟩ = some (.int .i64 3) := (hb.cell (by first | assumption | (simp; done) | (simp; omega) | omega)).trans (by simp [go_sem, *])
  have f0_0 : w2.frozen? ⟨w1.heap.size, 0, none⟩ = false := (hb.frozen (by first | assumption | (simp; done) | (simp; omega) | omega)).trans (by simp [go_sem, *])
  have c0_1 : w2.cell? ⟨w1.heap.size, 1, none⟩ = some (.int .i64 5) := (hb.cell (by first | assumption | (simp; done) | (simp; omega) | omega)).trans (by simp [go_sem, *])
  have f0_1 : w2.frozen? ⟨w1.heap.size, 1, none⟩ = false := (hb.frozen (by first | assumption | (simp; done) | (simp; omega) | omega)).trans (by simp [go_sem, *])
  have c0_2 : w2.cell? ⟨w1.heap.size, 2, none⟩ = some (.int .i64 2) := (hb.cell (by first | assumption | (simp; done) | (simp; omega) | omega)).trans (by simp [go_sem, *])
  have f0_2 : w2.frozen? ⟨w1.heap.size, 2, none⟩ = false := (hb.frozen (by first | assumption | (simp; done) | (simp; omega) | omega)).trans (by simp [go_sem, *])
  have c0_3 : w2.cell? ⟨w1.heap.size, 3, none⟩ = some (.int .u32 0) := (hb.cell (by first | assumption | (simp; done) | (simp; omega) | omega)).trans (by simp [go_sem, *])
  have f0_3 : w2.frozen? ⟨w1.heap.size, 3, none⟩ = false := (hb.frozen (by first | assumption | (simp; done) | (simp; omega) | omega)).trans (by simp [go_sem, *])
  have c0_4 : w2.cell? ⟨w1.heap.size, 4, none⟩ = some (.bool true) := (hb.cell (by first | assumption | (simp; done) | (simp; omega) | omega)).trans (by simp [go_sem, *])
  have f0_4 : w2.frozen? ⟨w1.heap.size, 4, none⟩ = false := (hb.frozen (by first | assumption | (simp; done) | (simp; omega) | omega)).trans (by simp [go_sem, *])
  have z0 : w1.heap.size < w2.heap.size := Nat.lt_of_lt_of_le (by first | assumption | (simp; done) | (simp; omega) | omega) hb.size
  have hB_w2 : Below w.heap.size w w2 := bstep (by go_grown) hb
  have hs_w2 : w.heap.size ≤ w2.heap.size := hB_w2.size
  clear hb
  go_wp2_with fail
  refine (g3 _).mono ?_
  rintro e w3 ⟨rfl, hb⟩
  have c0_0 : w3.cell? ⟨w1.heap.size, 0, none⟩ = some (.int .i64 3) := (hb.cell (by first | assumption | (simp; done) | (simp; omega) | omega)).trans (by simp [go_sem, *])
  have f0_0 : w3.frozen? ⟨w1.heap.size, 0, none⟩ = false := (hb.frozen (by first | assumption | (simp; done) | (simp; omega) | omega)).trans (by simp [go_sem, *])
  have c0_1 : w3.cell? ⟨w1.heap.size, 1, none⟩ = some (.int .i64 5) := (hb.cell (by first | assumption | (simp; done) | (simp; omega) | omega)).trans (by simp [go_sem, *])
  have f0_1 : w3.frozen? ⟨w1.heap.size, 1, none⟩ = false := (hb.frozen (by first | assumption | (simp; done) | (simp; omega) | omega)).trans (by simp [go_sem, *])
  have c0_2 : w3.cell? ⟨w1.heap.size, 2, none⟩ = some (.int .i64 2) := (hb.cell (by first | assumption | (simp; done) | (simp; omega) | omega)).trans (by simp [go_sem, *])
  have f0_2 : w3.frozen? ⟨w1.heap.size, 2, none⟩ = false := (hb.frozen (by first | assumption | (simp; done) | (simp; omega) | omega)).trans (by simp [go_sem, *])
  have c0_3 : w3.cell? ⟨w1.heap.size, 3, none⟩ = some (.int .u32 0) := (hb.cell (by first | assumption | (simp; done) | (simp; omega) | omega)).trans (by simp [go_sem, *])
  have f0_3 : w3.frozen? ⟨w1.heap.size, 3, none⟩ = false := (hb.frozen (by first | assumption | (simp; done) | (simp; omega) | omega)).trans (by simp [go_sem, *])
  have c0_4 : w3.cell? ⟨w1.heap.size, 4, none⟩ = some (.bool true) := (hb.cell (by first | assumption | (simp; done) | (simp; omega) | omega)).trans (by simp [go_sem, *])
  have f0_4 : w3.frozen? ⟨w1.heap.size, 4, none⟩ = false := (hb.frozen (by first | assumption | (simp; done) | (simp; omega) | omega)).trans (by simp [go_sem, *])
  have z0 : w1.heap.size < w3.heap.size := Nat.lt_of_lt_of_le (by first | assumption | (simp; done) | (simp; omega) | omega) hb.size
  have hB_w3 : Below w.heap.size w w3 := bstep (by go_grown) hb
  have hs_w3 : w.heap.size ≤ w3.heap.size := hB_w3.size
  clear hb
  go_wp2_with fail
  refine (g4 _).mono ?_
  rintro e w4 ⟨rfl, hb⟩
  have c0_0 : w4.cell? ⟨w1.heap.size, 0, none⟩ = some (.int .i64 3) := (hb.cell (by first | assumption | (simp; done) | (simp; omega) | omega)).trans (by simp [go_sem, *])
  have f0_0 : w4.frozen? ⟨w1.heap.size, 0, none⟩ = false := (hb.frozen (by first | assumption | (simp; done) | (simp; omega) | omega)).trans (by simp [go_sem, *])
  have c0_1 : w4.cell? ⟨w1.heap.size, 1, none⟩ = some (.int .i64 5) := (hb.cell (by first | assumption | (simp; done) | (simp; omega) | omega)).trans (by simp [go_sem, *])
  have f0_1 : w4.frozen? ⟨w1.heap.size, 1, none⟩ = false := (hb.frozen (by first | assumption | (simp; done) | (simp; omega) | omega)).trans (by simp [go_sem, *])
  have c0_2 : w4.cell? ⟨w1.heap.size, 2, none⟩ = some (.int .i64 2) := (hb.cell (by first | assumption | (simp; done) | (simp; omega) | omega)).trans (by simp [go_sem, *])
  have f0_2 : w4.frozen? ⟨w1.heap.size, 2, none⟩ = false := (hb.frozen (by first | assumption | (simp; done) | (simp; omega) | omega)).trans (by simp [go_sem, *])
  have c0_3 : w4.cell? ⟨w1.heap.size, 3, none⟩ = some (.int .u32 0) := (hb.cell (by first | assumption | (simp; done) | (simp; omega) | omega)).trans (by simp [go_sem, *])
  have f0_3 : w4.frozen? ⟨w1.heap.size, 3, none⟩ = false := (hb.frozen (by first | assumption | (simp; done) | (simp; omega) | omega)).trans (by simp [go_sem, *])
  have c0_4 : w4.cell? ⟨w1.heap.size, 4, none⟩ = some (.bool true) := (hb.cell (by first | assumption | (simp; done) | (simp; omega) | omega)).trans (by simp [go_sem, *])
  have f0_4 : w4.frozen? ⟨w1.heap.size, 4, none⟩ = false := (hb.frozen (by first | assumption | (simp; done) | (simp; omega) | omega)).trans (by simp [go_sem, *])
  have z0 : w1.heap.size < w4.heap.size := Nat.lt_of_lt_of_le (by first | assumption | (simp; done) | (simp; omega) | omega) hb.size
  have hB_w4 : Below w.heap.size w w4 := bstep (by go_grown) hb
  have hs_w4 : w.heap.size ≤ w4.heap.size := hB_w4.size
  clear hb
  go_wp2
  go_returns
  exact ⟨by simp_all, by go_grown⟩
set_option maxHeartbeats 2000000 in
theorem CallRead_any (r : Nat → Int) (hr : Words r) (e v x : Int) (w : World) :
    Calls Try.prog 4 #[.agg (regs r), .int .i64 e, .int .u32 v, .int .u32 x] w fun e' w' => e' = .returned (.bool true) ∧ Below w.heap.size w w' := by
  have heq := eq_words
  unfold regs
  go_enter Try.func4, Try.ntmps4
  go_wp2_with fail
  refine (read_any r hr _).mono ?_
  rintro e w1 ⟨rfl, hb⟩
  have c0_0 : w1.cell? ⟨w.heap.size, 0, none⟩ = some (.int .u32 (r 0)) := (hb.cell (by first | assumption | (simp; done) | (simp; omega) | omega)).trans (by simp [go_sem, *])
  have f0_0 : w1.frozen? ⟨w.heap.size, 0, none⟩ = false := (hb.frozen (by first | assumption | (simp; done) | (simp; omega) | omega)).trans (by simp [go_sem, *])
  have c0_1 : w1.cell? ⟨w.heap.size, 1, none⟩ = some (.int .u32 (r 1)) := (hb.cell (by first | assumption | (simp; done) | (simp; omega) | omega)).trans (by simp [go_sem, *])
  have f0_1 : w1.frozen? ⟨w.heap.size, 1, none⟩ = false := (hb.frozen (by first | assumption | (simp; done) | (simp; omega) | omega)).trans (by simp [go_sem, *])
  have c0_2 : w1.cell? ⟨w.heap.size, 2, none⟩ = some (.int .u32 (r 2)) := (hb.cell (by first | assumption | (simp; done) | (simp; omega) | omega)).trans (by simp [go_sem, *])
  have f0_2 : w1.frozen? ⟨w.heap.size, 2, none⟩ = false := (hb.frozen (by first | assumption | (simp; done) | (simp; omega) | omega)).trans (by simp [go_sem, *])
  have c0_3 : w1.cell? ⟨w.heap.size, 3, none⟩ = some (.int .u32 (r 3)) := (hb.cell (by first | assumption | (simp; done) | (simp; omega) | omega)).trans (by simp [go_sem, *])
  have f0_3 : w1.frozen? ⟨w.heap.size, 3, none⟩ = false := (hb.frozen (by first | assumption | (simp; done) | (simp; omega) | omega)).trans (by simp [go_sem, *])
  have c0_4 : w1.cell? ⟨w.heap.size, 4, none⟩ = some (.int .u32 (r 4)) := (hb.cell (by first | assumption | (simp; done) | (simp; omega) | omega)).trans (by simp [go_sem, *])
  have f0_4 : w1.frozen? ⟨w.heap.size, 4, none⟩ = false := (hb.frozen (by first | assumption | (simp; done) | (simp; omega) | omega)).trans (by simp [go_sem, *])
  have c0_5 : w1.cell? ⟨w.heap.size, 5, none⟩ = some (.int .u32 (r 5)) := (hb.cell (by first | assumption | (simp; done) | (simp; omega) | omega)).trans (by simp [go_sem, *])
  have f0_5 : w1.frozen? ⟨w.heap.size, 5, none⟩ = false := (hb.frozen (by first | assumption | (simp; done) | (simp; omega) | omega)).trans (by simp [go_sem, *])
  have c0_6 : w1.cell? ⟨w.heap.size, 6, none⟩ = some (.int .u32 (r 6)) := (hb.cell (by first | assumption | (simp; done) | (simp; omega) | omega)).trans (by simp [go_sem, *])
  have f0_6 : w1.frozen? ⟨w.heap.size, 6, none⟩ = false := (hb.frozen (by first | assumption | (simp; done) | (simp; omega) | omega)).trans (by simp [go_sem, *])
  have c0_7 : w1.cell? ⟨w.heap.size, 7, none⟩ = some (.int .u32 (r 7)) := (hb.cell (by first | assumption | (simp; done) | (simp; omega) | omega)).trans (by simp [go_sem, *])
  have f0_7 : w1.frozen? ⟨w.heap.size, 7, none⟩ = false := (hb.frozen (by first | assumption | (simp; done) | (simp; omega) | omega)).trans (by simp [go_sem, *])
  have z0 : w.heap.size < w1.heap.size := Nat.lt_of_lt_of_le (by first | assumption | (simp; done) | (simp; omega) | omega) hb.size
  have hB_w1 : Below w.heap.size w w1 := bstep (by go_grown) hb
  have hs_w1 : w.heap.size ≤ w1.heap.size := hB_w1.size
  clear hb
  go_wp2_with fail
  refine (rread_any r hr _).mono ?_
  rintro e w2 ⟨rfl, hb⟩
  have c0_0 : w2.cell? ⟨w.heap.size, 0, none⟩ = some (.int .u32 (r 0)) := (hb.cell (by first | assumption | (simp; done) | (simp; omega) | omega)).trans (by simp [go_sem, *])
  have f0_0 : w2.frozen? ⟨w.heap.size, 0, none⟩ = false := (hb.frozen (by first | assumption | (simp; done) | (simp; omega) | omega)).trans (by simp [go_sem, *])
  have c0_1 : w2.cell? ⟨w.heap.size, 1, none⟩ = some (.int .u32 (r 1)) := (hb.cell (by first | assumption | (simp; done) | (simp; omega) | omega)).trans (by simp [go_sem, *])
  have f0_1 : w2.frozen? ⟨w.heap.size, 1, none⟩ = false := (hb.frozen (by first | assumption | (simp; done) | (simp; omega) | omega)).trans (by simp [go_sem, *])
  have c0_2 : w2.cell? ⟨w.heap.size, 2, none⟩ = some (.int .u32 (r 2)) := (hb.cell (by first | assumption | (simp; done) | (simp; omega) | omega)).trans (by simp [go_sem, *])
  have f0_2 : w2.frozen? ⟨w.heap.size, 2, none⟩ = false := (hb.frozen (by first | assumption | (simp; done) | (simp; omega) | omega)).trans (by simp [go_sem, *])
  have c0_3 : w2.cell? ⟨w.heap.size, 3, none⟩ = some (.int .u32 (r 3)) := (hb.cell (by first | assumption | (simp; done) | (simp; omega) | omega)).trans (by simp [go_sem, *])
  have f0_3 : w2.frozen? ⟨w.heap.size, 3, none⟩ = false := (hb.frozen (by first | assumption | (simp; done) | (simp; omega) | omega)).trans (by simp [go_sem, *])
  have c0_4 : w2.cell? ⟨w.heap.size, 4, none⟩ = some (.int .u32 (r 4)) := (hb.cell (by first | assumption | (simp; done) | (simp; omega) | omega)).trans (by simp [go_sem, *])
  have f0_4 : w2.frozen? ⟨w.heap.size, 4, none⟩ = false := (hb.frozen (by first | assumption | (simp; done) | (simp; omega) | omega)).trans (by simp [go_sem, *])
  have c0_5 : w2.cell? ⟨w.heap.size, 5, none⟩ = some (.int .u32 (r 5)) := (hb.cell (by first | assumption | (simp; done) | (simp; omega) | omega)).trans (by simp [go_sem, *])
  have f0_5 : w2.frozen? ⟨w.heap.size, 5, none⟩ = false := (hb.frozen (by first | assumption | (simp; done) | (simp; omega) | omega)).trans (by simp [go_sem, *])
  have c0_6 : w2.cell? ⟨w.heap.size, 6, none⟩ = some (.int .u32 (r 6)) := (hb.cell (by first | assumption | (simp; done) | (simp; omega) | omega)).trans (by simp [go_sem, *])
  have f0_6 : w2.frozen? ⟨w.heap.size, 6, none⟩ = false := (hb.frozen (by first | assumption | (simp; done) | (simp; omega) | omega)).trans (by simp [go_sem, *])
  have c0_7 : w2.cell? ⟨w.heap.size, 7, none⟩ = some (.int .u32 (r 7)) := (hb.cell (by first | assumption | (simp; done) | (simp; omega) | omega)).trans (by simp [go_sem, *])
  have f0_7 : w2.frozen? ⟨w.heap.size, 7, none⟩ = false := (hb.frozen (by first | assumption | (simp; done) | (simp; omega) | omega)).trans (by simp [go_sem, *])
  have z0 : w.heap.size < w2.heap.size := Nat.lt_of_lt_of_le (by first | assumption | (simp; done) | (simp; omega) | omega) hb.size
  have c1_0 : w2.cell? ⟨w1.heap.size, 0, none⟩ = some (.int .i64 (sNo r)) := (hb.cell (by first | assumption | (simp; done) | (simp; omega) | omega)).trans (by simp [go_sem, *])
  have f1_0 : w2.frozen? ⟨w1.heap.size, 0, none⟩ = false := (hb.frozen (by first | assumption | (simp; done) | (simp; omega) | omega)).trans (by simp [go_sem, *])
  have c1_1 : w2.cell? ⟨w1.heap.size, 1, none⟩ = some (.int .i64 (sA r)) := (hb.cell (by first | assumption | (simp; done) | (simp; omega) | omega)).trans (by simp [go_sem, *])
  have f1_1 : w2.frozen? ⟨w1.heap.size, 1, none⟩ = false := (hb.frozen (by first | assumption | (simp; done) | (simp; omega) | omega)).trans (by simp [go_sem, *])
  have c1_2 : w2.cell? ⟨w1.heap.size, 2, none⟩ = some (.int .i64 (sB r)) := (hb.cell (by first | assumption | (simp; done) | (simp; omega) | omega)).trans (by simp [go_sem, *])
  have f1_2 : w2.frozen? ⟨w1.heap.size, 2, none⟩ = false := (hb.frozen (by first | assumption | (simp; done) | (simp; omega) | omega)).trans (by simp [go_sem, *])
  have c1_3 : w2.cell? ⟨w1.heap.size, 3, none⟩ = some (.int .u32 (sC r)) := (hb.cell (by first | assumption | (simp; done) | (simp; omega) | omega)).trans (by simp [go_sem, *])
  have f1_3 : w2.frozen? ⟨w1.heap.size, 3, none⟩ = false := (hb.frozen (by first | assumption | (simp; done) | (simp; omega) | omega)).trans (by simp [go_sem, *])
  have c1_4 : w2.cell? ⟨w1.heap.size, 4, none⟩ = some (.bool (sW r)) := (hb.cell (by first | assumption | (simp; done) | (simp; omega) | omega)).trans (by simp [go_sem, *])
  have f1_4 : w2.frozen? ⟨w1.heap.size, 4, none⟩ = false := (hb.frozen (by first | assumption | (simp; done) | (simp; omega) | omega)).trans (by simp [go_sem, *])
  have z1 : w1.heap.size < w2.heap.size := Nat.lt_of_lt_of_le (by first | assumption | (simp; done) | (simp; omega) | omega) hb.size
  have hB_w2 : Below w.heap.size w w2 := bstep (by go_grown) hb
  have hs_w2 : w.heap.size ≤ w2.heap.size := hB_w2.size
  clear hb
  go_wp2_with fail
  go_region_held3 (fun W' => W'.cell? ⟨w.heap.size, 0, none⟩ = some (.int .u32 (r 0)) ∧ W'.cell? ⟨w.heap.size, 1, none⟩ = some (.int .u32 (r 1)) ∧ W'.cell? ⟨w.heap.size, 2, none⟩ = some (.int .u32 (r 2)) ∧ W'.cell? ⟨w.heap.size, 3, none⟩ = some (.int .u32 (r 3)) ∧ W'.cell? ⟨w.heap.size, 4, none⟩ = some (.int .u32 (r 4)) ∧ W'.cell? ⟨w.heap.size, 5, none⟩ = some (.int .u32 (r 5)) ∧ W'.cell? ⟨w.heap.size, 6, none⟩ = some (.int .u32 (r 6)) ∧ W'.cell? ⟨w.heap.size, 7, none⟩ = some (.int .u32 (r 7)) ∧ W'.cell? ⟨w1.heap.size, 0, none⟩ = some (.int .i64 (sNo r)) ∧ W'.cell? ⟨w1.heap.size, 1, none⟩ = some (.int .i64 (sA r)) ∧ W'.cell? ⟨w1.heap.size, 2, none⟩ = some (.int .i64 (sB r)) ∧ W'.cell? ⟨w1.heap.size, 3, none⟩ = some (.int .u32 (sC r)) ∧ W'.cell? ⟨w1.heap.size, 4, none⟩ = some (.bool (sW r)) ∧ W'.cell? ⟨w2.heap.size, 0, none⟩ = some (.int .i64 (sNo r)) ∧ W'.cell? ⟨w2.heap.size, 1, none⟩ = some (.int .i64 (sA r)) ∧ W'.cell? ⟨w2.heap.size, 2, none⟩ = some (.int .i64 (sB r)) ∧ W'.cell? ⟨w2.heap.size, 3, none⟩ = some (.int .u32 (sC r)) ∧ W'.cell? ⟨w2.heap.size, 4, none⟩ = some (.bool (sW r)) ∧ Below w.heap.size w W')
    ((repeat' apply And.intro) <;> first | assumption | exact keepc hb (by first | assumption | (simp [go_sem, *]; done)) | exact bstep (by first | assumption | (simp [*]; done) | (go_grown; done)) hb | (simp [go_sem, *]; done) | go_grown)
    (first
      | (go_at_call 11; refine (told_any r e v x _).mono ?_; rintro e1 w3 ⟨rfl, hb⟩)
      | (go_at_call 12; refine (rtold_any r e v x _).mono ?_; rintro e1 w3 ⟨rfl, hb⟩)
      | (go_at_call 9; refine (awake_any _).mono ?_; rintro e1 w3 ⟨rfl, hb⟩))
  go_wp2
  go_returns
  exact ⟨by simp, by simp [*]⟩
end Go.Proofs.Ytnhffghppjlbaaa
