/- Helper text of this seat (Laws2): contracts of functions of the given program and of its references, each told by its theorem. -/
import Derived.Test.YtnhffghppjlbaaaLaws
import Derived.Deep.QuietTactic
import Derived.BigQuiet
import Derived.Deep.RegionHeld3
namespace Go.Proofs.Ytnhffghppjlbaaa
open Go.RowKit
set_option linter.unusedVariables false
set_option linter.unusedSimpArgs false
theorem told_e (r : Nat → Int) (e v x : Int) (w : World) (he : IntKind.u32.wrap e = e) :
    Calls Try.prog 11 #[.agg (regs r), .int .i64 e, .int .u32 v, .int .u32 x] w fun e' w' => e' = .returned (.agg #[.int .u32 e, .int .u32 v, .int .u32 x, .int .u32 (r 3), .int .u32 (r 4), .int .u32 (r 5), .int .u32 (r 6), .int .u32 (r 7)]) ∧ Below w.heap.size w w' :=
  (told_any r e v x w).mono fun e1 w1 h => by rw [he] at h; exact h
theorem told_l (a0 a1 a2 a3 a4 a5 a6 a7 e v x : Int) (w : World) (he : IntKind.u32.wrap e = e) :
    Calls Try.prog 11 #[.agg #[.int .u32 a0, .int .u32 a1, .int .u32 a2, .int .u32 a3, .int .u32 a4, .int .u32 a5, .int .u32 a6, .int .u32 a7], .int .i64 e, .int .u32 v, .int .u32 x] w fun e' w' => e' = .returned (.agg #[.int .u32 e, .int .u32 v, .int .u32 x, .int .u32 a3, .int .u32 a4, .int .u32 a5, .int .u32 a6, .int .u32 a7]) ∧ Below w.heap.size w w' :=
  told_e (rf a0 a1 a2 a3 a4 a5 a6 a7) e v x w he
set_option maxHeartbeats 2000000 in
theorem CallTold_out (r : Nat → Int) (e v x : Int) (w : World) (he : e < 0 ∨ 100 < e) :
    Calls Try.prog 5 #[.agg (regs r), .int .i64 e, .int .u32 v, .int .u32 x] w fun e' w' => e' = .returned (.bool true) ∧ Below w.heap.size w w' := by
  unfold regs
  rcases he with he | he
  all_goals
    go_enter Try.func5, Try.ntmps5
    go_wp2_with (go_at_call 9; refine (awake_any _).mono ?_; rintro e1 w1 ⟨rfl, hb⟩)
    go_returns
    exact ⟨rfl, bstep (by go_grown) hb⟩
set_option maxHeartbeats 4000000 in
theorem CallTold_in (r : Nat → Int) (hr : Words r) (e v x : Int) (w : World) (he : 0 ≤ e) (he2 : e ≤ 100) (hv : 0 ≤ v ∧ v < 4294967296) (hx : 0 ≤ x ∧ x < 4294967296) :
    Calls Try.prog 5 #[.agg (regs r), .int .i64 e, .int .u32 v, .int .u32 x] w fun e' w' => e' = .returned (.bool true) ∧ Below w.heap.size w w' := by
  have heq := eq_words
  have hW : Words (rf e v x (r 3) (r 4) (r 5) (r 6) (r 7)) := words_rf (by omega) hv hx (hr 3) (hr 4) (hr 5) (hr 6) (hr 7)
  have hse : (sE (rf e v x (r 3) (r 4) (r 5) (r 6) (r 7)) == 10) = decide (12 < e) := by
    have h0 : rf e v x (r 3) (r 4) (r 5) (r 6) (r 7) 0 = e := rfl
    unfold sE
    rw [h0]
    by_cases h : 13 ≤ e
    · simp [h]; omega
    · rw [if_neg h]
      split <;> simp <;> omega
  have hwr : IntKind.u32.wrap e = e := IntWalk.u32_in _ (by omega)
  unfold regs
  go_enter Try.func5, Try.ntmps5
  go_wp2_with fail
  refine (told_e r e v x _ hwr).mono ?_
  rintro e w1 ⟨rfl, hb⟩
  have c0_0 : w1.cell? ⟨w.heap.size, 0, none⟩ = some (.int .u32 (r 0)) := (hb.cell (by first | assumption | (simp; done) | (simp; omega) | omega)).trans (by simp [go_sem, *])
  have f0_0 : w1.frozen? ⟨w.heap.size, 0, none⟩ = false := (hb.frozen (by first | assumption | (simp; done) | (simp; omega) | omega)).trans (by simp [go_sem, *])
  have c0_1 : w1.cell? ⟨w.heap.size, 1, none⟩ = some (.int .u32 (r 1)) := (hb.cell (by first | assumption | (simp; done) | (simp; omega) | omega)).trans (by simp [go_sem, *])
  have f0_1 : w1.frozen? ⟨w.heap.size, 1, none⟩ = false := (hb.frozen (by first | assumption | (simp; done) | (simp; omega) | omega)).trans (by simp [go_sem, *])
  have c0_2 : w1.cell? ⟨w.heap.size, 2, none⟩ = some (.int .u32 (r 2)) := (hb.cell (by first | assumption | (simp; done) | (simp; omega) | omega)).trans (by simp [go_sem, *])
  have f0_2 : w1.frozen? ⟨w.heap.size, 2, none⟩ = false := (hb.frozen (by first | assumption | (simp; done) | (simp; omega) | omega)).trans (by simp [go_sem, *])
  have c0_3 : w1.cell? ⟨w.heap.size, 3, none⟩ = some (.int .u32 (r 3)) := (hb.cell (by first | assumption | (simp; done) | (simp; omega) | omega)).trans (by simp [go_sem, *])
  have f0_3 : w1.frozen? ⟨w.heap.size, 3, none⟩ = false := (hb.frozen (by first | assumption | (simp; done) | (simp; omega) | omega)).trans (by simp [go_sem, *])
  have c0_4 : w1.cell? ⟨w.heap.size, 4, none⟩ = some (.int .u32 (r 4)) := (hb.cell (by first | assumption | (simp; done) | (simp; omega) | omega)).trans (by simp [go_sem, *])
  have f0_4 : w1.frozen? ⟨w.heap.size, 4, none⟩ = false := (hb.frozen (by first | assumption | (simp; done) | (simp; omega) | omega)).trans (by simp [go_sem, *])
  have c0_5 : w1.cell? ⟨w.heap.size, 5, none⟩ = some (.int .u32 (r 5)) := (hb.cell (by first | assumption | (simp; done) | (simp; omega) | omega)).trans (by simp [go_sem, *])
  have f0_5 : w1.frozen? ⟨w.heap.size, 5, none⟩ = false := (hb.frozen (by first | assumption | (simp; done) | (simp; omega) | omega)).trans (by simp [go_sem, *])
  have c0_6 : w1.cell? ⟨w.heap.size, 6, none⟩ = some (.int .u32 (r 6)) := (hb.cell (by first | assumption | (simp; done) | (simp; omega) | omega)).trans (by simp [go_sem, *])
  have f0_6 : w1.frozen? ⟨w.heap.size, 6, none⟩ = false := (hb.frozen (by first | assumption | (simp; done) | (simp; omega) | omega)).trans (by simp [go_sem, *])
  have c0_7 : w1.cell? ⟨w.heap.size, 7, none⟩ = some (.int .u32 (r 7)) := (hb.cell (by first | assumption | (simp; done) | (simp; omega) | omega)).trans (by simp [go_sem, *])
  have f0_7 : w1.frozen? ⟨w.heap.size, 7, none⟩ = false := (hb.frozen (by first | assumption | (simp; done) | (simp; omega) | omega)).trans (by simp [go_sem, *])
  have z0 : w.heap.size < w1.heap.size := Nat.lt_of_lt_of_le (by first | assumption | (simp; done) | (simp; omega) | omega) hb.size
  have hB_w1 : Below w.heap.size w w1 := bstep (by go_grown) hb
  have hs_w1 : w.heap.size ≤ w1.heap.size := hB_w1.size
  clear hb
  go_wp2_with fail
  refine wp_abs (fun W => W.cell? ⟨w.heap.size, 0, none⟩ = some (.int .u32 (r 0)) ∧ W.cell? ⟨w.heap.size, 1, none⟩ = some (.int .u32 (r 1)) ∧ W.cell? ⟨w.heap.size, 2, none⟩ = some (.int .u32 (r 2)) ∧ W.cell? ⟨w.heap.size, 3, none⟩ = some (.int .u32 (r 3)) ∧ W.cell? ⟨w.heap.size, 4, none⟩ = some (.int .u32 (r 4)) ∧ W.cell? ⟨w.heap.size, 5, none⟩ = some (.int .u32 (r 5)) ∧ W.cell? ⟨w.heap.size, 6, none⟩ = some (.int .u32 (r 6)) ∧ W.cell? ⟨w.heap.size, 7, none⟩ = some (.int .u32 (r 7)) ∧ W.cell? ⟨w1.heap.size, 0, none⟩ = some (.int .u32 e) ∧ W.cell? ⟨w1.heap.size, 1, none⟩ = some (.int .u32 v) ∧ W.cell? ⟨w1.heap.size, 2, none⟩ = some (.int .u32 x) ∧ W.cell? ⟨w1.heap.size, 3, none⟩ = some (.int .u32 (r 3)) ∧ W.cell? ⟨w1.heap.size, 4, none⟩ = some (.int .u32 (r 4)) ∧ W.cell? ⟨w1.heap.size, 5, none⟩ = some (.int .u32 (r 5)) ∧ W.cell? ⟨w1.heap.size, 6, none⟩ = some (.int .u32 (r 6)) ∧ W.cell? ⟨w1.heap.size, 7, none⟩ = some (.int .u32 (r 7)) ∧ Below w.heap.size w W) ⟨by simp [go_sem, *], by simp [go_sem, *], by simp [go_sem, *], by simp [go_sem, *], by simp [go_sem, *], by simp [go_sem, *], by simp [go_sem, *], by simp [go_sem, *], by simp [go_sem, *], by simp [go_sem, *], by simp [go_sem, *], by simp [go_sem, *], by simp [go_sem, *], by simp [go_sem, *], by simp [go_sem, *], by simp [go_sem, *], (by go_grown)⟩ ?_
  rintro W ⟨k0, k1, k2, k3, k4, k5, k6, k7, k8, k9, k10, k11, k12, k13, k14, k15, hBW⟩
  refine wp_loop_rounds 6 ?_
  iterate 5 (rw [rounds_succ]; go_wp2; go_quiet (fail); go_wp2)
  rw [rounds_succ]
  go_wp2_with fail
  refine calls_abs (fun V => V.cell? ⟨w1.heap.size, 0, none⟩ = some (.int .u32 e) ∧ V.cell? ⟨w1.heap.size, 1, none⟩ = some (.int .u32 v) ∧ V.cell? ⟨w1.heap.size, 2, none⟩ = some (.int .u32 x) ∧ V.cell? ⟨w1.heap.size, 3, none⟩ = some (.int .u32 (r 3)) ∧ V.cell? ⟨w1.heap.size, 4, none⟩ = some (.int .u32 (r 4)) ∧ V.cell? ⟨w1.heap.size, 5, none⟩ = some (.int .u32 (r 5)) ∧ V.cell? ⟨w1.heap.size, 6, none⟩ = some (.int .u32 (r 6)) ∧ V.cell? ⟨w1.heap.size, 7, none⟩ = some (.int .u32 (r 7)) ∧ Below w.heap.size w V) ⟨by simp [go_sem, *], by simp [go_sem, *], by simp [go_sem, *], by simp [go_sem, *], by simp [go_sem, *], by simp [go_sem, *], by simp [go_sem, *], by simp [go_sem, *], (by exact bdrewN hBW _)⟩ ?_
  rintro V ⟨v0, v1, v2, v3, v4, v5, v6, v7, v8⟩
  refine (read_l hW V).mono ?_
  rintro e2 w2 ⟨rfl, hb⟩
  have m0 := keepc hb v0
  have m1 := keepc hb v1
  have m2 := keepc hb v2
  have m3 := keepc hb v3
  have m4 := keepc hb v4
  have m5 := keepc hb v5
  have m6 := keepc hb v6
  have m7 := keepc hb v7
  have m8 := bstep v8 hb
  have m9 : w1.heap.size < w2.heap.size := block_lt_of_cell m0
  clear hb v0 v1 v2 v3 v4 v5 v6 v7 v8
  go_wp2_with fail
  by_cases h12 : 12 < e
  · have hq := hse.trans (decide_eq_true h12)
    clear hse
    go_region_held3 (fun W' => W'.cell? ⟨w1.heap.size, 0, none⟩ = some (.int .u32 e) ∧ W'.cell? ⟨w1.heap.size, 1, none⟩ = some (.int .u32 v) ∧ W'.cell? ⟨w1.heap.size, 2, none⟩ = some (.int .u32 x) ∧ W'.cell? ⟨w1.heap.size, 3, none⟩ = some (.int .u32 (r 3)) ∧ W'.cell? ⟨w1.heap.size, 4, none⟩ = some (.int .u32 (r 4)) ∧ W'.cell? ⟨w1.heap.size, 5, none⟩ = some (.int .u32 (r 5)) ∧ W'.cell? ⟨w1.heap.size, 6, none⟩ = some (.int .u32 (r 6)) ∧ W'.cell? ⟨w1.heap.size, 7, none⟩ = some (.int .u32 (r 7)) ∧ Below w.heap.size w W')
      ((repeat' apply And.intro) <;> first | assumption | exact keepc hb (by first | assumption | (simp [go_sem, *]; done)) | exact bstep (by first | assumption | (simp [*]; done) | (go_grown; done)) hb | (simp [go_sem, *]; done) | (go_grown; done))
      (first
        | (go_at_call 11; refine (told_l _ _ _ _ _ _ _ _ e v x _ hwr).mono ?_; rintro e1 w3 ⟨rfl, hb⟩)
        | (go_at_call 9; refine (awake_any _).mono ?_; rintro e1 w3 ⟨rfl, hb⟩))
    go_wp2
    go_returns
    exact ⟨by simp, by simp [*]⟩
  · have hq := hse.trans (decide_eq_false h12)
    clear hse
    go_region_held3 (fun W' => W'.cell? ⟨w1.heap.size, 0, none⟩ = some (.int .u32 e) ∧ W'.cell? ⟨w1.heap.size, 1, none⟩ = some (.int .u32 v) ∧ W'.cell? ⟨w1.heap.size, 2, none⟩ = some (.int .u32 x) ∧ W'.cell? ⟨w1.heap.size, 3, none⟩ = some (.int .u32 (r 3)) ∧ W'.cell? ⟨w1.heap.size, 4, none⟩ = some (.int .u32 (r 4)) ∧ W'.cell? ⟨w1.heap.size, 5, none⟩ = some (.int .u32 (r 5)) ∧ W'.cell? ⟨w1.heap.size, 6, none⟩ = some (.int .u32 (r 6)) ∧ W'.cell? ⟨w1.heap.size, 7, none⟩ = some (.int .u32 (r 7)) ∧ Below w.heap.size w W')
      ((repeat' apply And.intro) <;> first | assumption | exact keepc hb (by first | assumption | (simp [go_sem, *]; done)) | exact bstep (by first | assumption | (simp [*]; done) | (go_grown; done)) hb | (simp [go_sem, *]; done) | (go_grown; done))
      (first
        | (go_at_call 11; refine (told_l _ _ _ _ _ _ _ _ e v x _ hwr).mono ?_; rintro e1 w3 ⟨rfl, hb⟩)
        | (go_at_call 9; refine (awake_any _).mono ?_; rintro e1 w3 ⟨rfl, hb⟩))
    go_wp2
    go_returns
    exact ⟨by simp, by simp [*]⟩
theorem CallTold_any (r : Nat → Int) (hr : Words r) (e v x : Int) (w : World) (hv : 0 ≤ v ∧ v < 4294967296) (hx : 0 ≤ x ∧ x < 4294967296) :
    Calls Try.prog 5 #[.agg (regs r), .int .i64 e, .int .u32 v, .int .u32 x] w fun e' w' => e' = .returned (.bool true) ∧ Below w.heap.size w w' := by
  by_cases h : e < 0 ∨ 100 < e
  · exact CallTold_out r e v x w h
  · exact CallTold_in r hr e v x w (by omega) (by omega) hv hx
end Go.Proofs.Ytnhffghppjlbaaa
