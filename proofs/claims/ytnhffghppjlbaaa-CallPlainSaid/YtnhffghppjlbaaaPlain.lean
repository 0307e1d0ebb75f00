/- Helper text of this seat (Plain): contracts of functions of the given program and of its references, each told by its theorem. -/
import Derived.Test.YtnhffghppjlbaaaLaws
import Derived.Deep.QuietTactic
import Derived.BigQuiet
namespace Go.Proofs.Ytnhffghppjlbaaa
open Go.RowKit
set_option linter.unusedVariables false
set_option linter.unusedSimpArgs false
theorem plain_read (p : Int) (r : Nat → Int) (hr : Words r) (w : World) (hp : p = 0 ∨ p = 1 ∨ p = 2 ∨ p = 9) :
    Calls Try.prog 8 #[.agg #[.int .u32 p, .int .u32 (r 1), .int .u32 (r 2), .int .u32 (r 3), .int .u32 (r 4), .int .u32 (r 5), .int .u32 (r 6), .int .u32 (r 7)]] w fun e w' => e = .returned (.tuple #[.agg #[.int .i64 p, .int .i64 0, .int .i64 0, .int .u32 0, .bool false], .int .i64 0]) ∧ Below w.heap.size w w' := by
  refine read_g (words_rf (by omega) (hr 1) (hr 2) (hr 3) (hr 4) (hr 5) (hr 6) (hr 7)) w _ _ _ _ _ _ ?_ ?_ ?_ ?_ ?_ ?_
  all_goals rcases hp with rfl | rfl | rfl | rfl <;> rfl
/-- what is read at the number n, W being 0 or 1 -/
def nE (n : Nat) : Int := if n < 13 then 0 else 10
theorem num_read (n : Nat) (hn : n < 20) (r : Nat → Int) (hr : Words r) (x : Int) (hx : 0 ≤ x ∧ x ≤ 1) (w : World) :
    Calls Try.prog 8 #[.agg #[.int .u32 n, .int .u32 (r 1), .int .u32 (r 2), .int .u32 x, .int .u32 (r 4), .int .u32 (r 5), .int .u32 (r 6), .int .u32 (r 7)]] w fun e w' => ∃ a b c y, e = .returned (.tuple #[.agg #[.int .i64 (if n < 13 then n else 0), .int .i64 a, .int .i64 b, .int .u32 c, .bool y], .int .i64 (nE n)]) ∧ Below w.heap.size w w' := by
  have hW : Words (rf n (r 1) (r 2) x (r 4) (r 5) (r 6) (r 7)) := words_rf (by omega) (hr 1) (hr 2) (by omega) (hr 4) (hr 5) (hr 6) (hr 7)
  have h0 : rf n (r 1) (r 2) x (r 4) (r 5) (r 6) (r 7) 0 = n := rfl
  have hf : fl (rf n (r 1) (r 2) x (r 4) (r 5) (r 6) (r 7)) (tW n) ≤ 1 ∨ 13 ≤ n := by
    by_cases h13 : n < 13
    · left
      refine cases13 (P := fun n => fl (rf n (r 1) (r 2) x (r 4) (r 5) (r 6) (r 7)) (tW n) ≤ 1) ?_ ?_ ?_ ?_ ?_ ?_ ?_ ?_ ?_ ?_ ?_ ?_ ?_ n h13
      all_goals first | exact hx.2 | (show (0 : Int) ≤ 1; omega)
    · right; omega
  have he : sE (rf n (r 1) (r 2) x (r 4) (r 5) (r 6) (r 7)) = nE n := by
    unfold sE nE
    rw [h0, Int.toNat_natCast]
    by_cases h13 : n < 13
    · rw [if_neg (by omega), if_neg (by omega), if_pos h13]
    · rw [if_pos (by omega), if_neg h13]
  have hno : sNo (rf n (r 1) (r 2) x (r 4) (r 5) (r 6) (r 7)) = (if n < 13 then (n : Int) else 0) := by
    unfold sNo
    rw [he, h0]
    unfold nE
    by_cases h13 : n < 13
    · simp [h13]
    · simp [h13]
  rw [← he, ← hno]
  refine (read_l hW w).mono fun e1 w1 ⟨h1, h2⟩ => ?_
  exact ⟨_, _, _, _, h1, h2⟩
set_option maxHeartbeats 4000000 in
theorem CallPlain_any (r : Nat → Int) (hr : Words r) (w : World) :
    Calls Try.prog 3 #[.agg (regs r)] w fun e w' => e = .returned (.bool true) ∧ Below w.heap.size w w' := by
  have hb3 := hr 3
  unfold regs
  go_enter Try.func3, Try.ntmps3
  go_wp2
  have hm : (r 3).tmod 2 = r 3 % 2 := Int.tmod_eq_emod_of_nonneg (by omega)
  have hx2 : 0 ≤ r 3 % 2 ∧ r 3 % 2 ≤ 1 := by omega
  go_loopw [4] (fun n W' => ∃ k : Nat, k ≤ 4 ∧ n = .int .i64 k ∧ W'.cell? ⟨w.heap.size, 0, none⟩ = some (.int .u32 (r 0)) ∧ W'.cell? ⟨w.heap.size, 1, none⟩ = some (.int .u32 (r 1)) ∧ W'.cell? ⟨w.heap.size, 2, none⟩ = some (.int .u32 (r 2)) ∧ W'.cell? ⟨w.heap.size, 3, none⟩ = some (.int .u32 (r 3)) ∧ W'.cell? ⟨w.heap.size, 4, none⟩ = some (.int .u32 (r 4)) ∧ W'.cell? ⟨w.heap.size, 5, none⟩ = some (.int .u32 (r 5)) ∧ W'.cell? ⟨w.heap.size, 6, none⟩ = some (.int .u32 (r 6)) ∧ W'.cell? ⟨w.heap.size, 7, none⟩ = some (.int .u32 (r 7)) ∧ W'.cell? ⟨w.heap.size + 1, 0, none⟩ = some (.int .u32 0) ∧ W'.cell? ⟨w.heap.size + 1, 1, none⟩ = some (.int .u32 1) ∧ W'.cell? ⟨w.heap.size + 1, 2, none⟩ = some (.int .u32 2) ∧ W'.cell? ⟨w.heap.size + 1, 3, none⟩ = some (.int .u32 9) ∧ Below w.heap.size w W') (fun n _ => 4 - (intOf n).toNat)
  case atStart =>
    refine ⟨0, by omega, rfl, ?_⟩
    (repeat' apply And.intro) <;> first | (simp [go_sem]; done) | (simp [go_sem, *]; done) | (go_grown; done)
  case round =>
    obtain ⟨k, hk, rfl, x0, x1, x2, x3, x4, x5, x6, x7, x8, x9, x10, x11, x12⟩ := hrel
    have z0 : w.heap.size < wr.heap.size := block_lt_of_cell x0
    have z1 : w.heap.size + 1 < wr.heap.size := block_lt_of_cell x8
    have hw64 : IntKind.i64.wrap (k + 1) = k + 1 := IntWalk.i64_in _ (by omega)
    by_cases h4 : k < 4
    · obtain ⟨p, hp, hc⟩ : ∃ p : Int, (p = 0 ∨ p = 1 ∨ p = 2 ∨ p = 9) ∧ wr.cell? ⟨w.heap.size + 1, k, none⟩ = some (.int .u32 p) := by
        rcases (show k = 0 ∨ k = 1 ∨ k = 2 ∨ k = 3 by omega) with rfl | rfl | rfl | rfl
        · exact ⟨0, by omega, x8⟩
        · exact ⟨1, by omega, x9⟩
        · exact ⟨2, by omega, x10⟩
        · exact ⟨9, by omega, x11⟩
      have hwp : IntKind.i64.wrap p = p := IntWalk.i64_in _ (by omega)
      go_wp2_with fail
      refine calls_abs (fun V => V.cell? ⟨w.heap.size + 1, k, none⟩ = some (.int .u32 p) ∧ V.cell? ⟨w.heap.size, 0, none⟩ = some (.int .u32 (r 0)) ∧ V.cell? ⟨w.heap.size, 1, none⟩ = some (.int .u32 (r 1)) ∧ V.cell? ⟨w.heap.size, 2, none⟩ = some (.int .u32 (r 2)) ∧ V.cell? ⟨w.heap.size, 3, none⟩ = some (.int .u32 (r 3)) ∧ V.cell? ⟨w.heap.size, 4, none⟩ = some (.int .u32 (r 4)) ∧ V.cell? ⟨w.heap.size, 5, none⟩ = some (.int .u32 (r 5)) ∧ V.cell? ⟨w.heap.size, 6, none⟩ = some (.int .u32 (r 6)) ∧ V.cell? ⟨w.heap.size, 7, none⟩ = some (.int .u32 (r 7)) ∧ V.cell? ⟨w.heap.size + 1, 0, none⟩ = some (.int .u32 0) ∧ V.cell? ⟨w.heap.size + 1, 1, none⟩ = some (.int .u32 1) ∧ V.cell? ⟨w.heap.size + 1, 2, none⟩ = some (.int .u32 2) ∧ V.cell? ⟨w.heap.size + 1, 3, none⟩ = some (.int .u32 9) ∧ Below w.heap.size w V) ?_ ?_
      · (repeat' apply And.intro) <;> first | (simp [go_sem, *]; done) | (simp [go_sem]; done) | (go_grown; done) | exact Below.alloc x12 (by omega) _
      rintro V ⟨vc, v0, v1, v2, v3, v4, v5, v6, v7, v8, v9, v10, v11, v12⟩
      clear x0 x1 x2 x3 x4 x5 x6 x7 x8 x9 x10 x11 x12 hc z0 z1
      refine (plain_read p r hr V hp).mono ?_
      rintro e U ⟨rfl, hb⟩
      have x0 := keepc hb v0
      have x1 := keepc hb v1
      have x2 := keepc hb v2
      have x3 := keepc hb v3
      have x4 := keepc hb v4
      have x5 := keepc hb v5
      have x6 := keepc hb v6
      have x7 := keepc hb v7
      have x8 := keepc hb v8
      have x9 := keepc hb v9
      have x10 := keepc hb v10
      have x11 := keepc hb v11
      have x12 := bstep v12 hb
      have z0 : w.heap.size < U.heap.size := block_lt_of_cell x0
      have z1 : w.heap.size + 1 < U.heap.size := block_lt_of_cell x8
      have hc : U.cell? ⟨w.heap.size + 1, k, none⟩ = some (.int .u32 p) := keepc hb vc
      clear hb vc v0 v1 v2 v3 v4 v5 v6 v7 v8 v9 v10 v11 v12
      go_wp2_with fail
      go_quiet (fail)
      go_wp2_with fail
      refine ⟨⟨k + 1, by omega, by go_num, ?_⟩, by simp [intOf]; omega⟩
      (repeat' apply And.intro) <;> first | (simp [go_sem, *]; done) | (simp [go_sem]; done) | (go_grown; done) | exact bdrewN (Below.alloc x12 (by omega) _) _
    · obtain ⟨A, hA⟩ : ∃ A, A = wr := ⟨_, rfl⟩
      subst hA
      go_wp2
      go_loopw [9] (fun n W' => ∃ k : Nat, k ≤ 20 ∧ n = .int .u32 k ∧ ∃ q : Int, W'.cell? ⟨A.heap.size, 0, none⟩ = some (.int .u32 q) ∧ W'.cell? ⟨A.heap.size, 1, none⟩ = some (.int .u32 (r 1)) ∧ W'.cell? ⟨A.heap.size, 2, none⟩ = some (.int .u32 (r 2)) ∧ W'.cell? ⟨A.heap.size, 3, none⟩ = some (.int .u32 (r 3 % 2)) ∧ W'.cell? ⟨A.heap.size, 4, none⟩ = some (.int .u32 (r 4)) ∧ W'.cell? ⟨A.heap.size, 5, none⟩ = some (.int .u32 (r 5)) ∧ W'.cell? ⟨A.heap.size, 6, none⟩ = some (.int .u32 (r 6)) ∧ W'.cell? ⟨A.heap.size, 7, none⟩ = some (.int .u32 (r 7)) ∧ Below w.heap.size w W' ∧ W'.frozen? ⟨A.heap.size, 0, none⟩ = false) (fun n _ => 20 - (intOf n).toNat)
      case atStart =>
        refine ⟨0, by omega, rfl, r 0, ?_⟩
        (repeat' apply And.intro) <;> first | (simp [go_sem, *]; done) | (simp [go_sem]; done) | exact Below.alloc x12 (by omega) _
      case round =>
        obtain ⟨k, hk, rfl, q, y0, y1, y2, y3, y4, y5, y6, y7, y8, y9⟩ := hrel
        have hw64 : IntKind.i64.wrap k = k := IntWalk.i64_in _ (by omega)
        have hwk : IntKind.u32.wrap (k + 1) = k + 1 := IntWalk.u32_in _ (by omega)
        by_cases h20 : k < 20
        · go_wp2_with fail
          refine calls_abs (fun V => V.cell? ⟨A.heap.size, 0, none⟩ = some (.int .u32 k) ∧ V.cell? ⟨A.heap.size, 1, none⟩ = some (.int .u32 (r 1)) ∧ V.cell? ⟨A.heap.size, 2, none⟩ = some (.int .u32 (r 2)) ∧ V.cell? ⟨A.heap.size, 3, none⟩ = some (.int .u32 (r 3 % 2)) ∧ V.cell? ⟨A.heap.size, 4, none⟩ = some (.int .u32 (r 4)) ∧ V.cell? ⟨A.heap.size, 5, none⟩ = some (.int .u32 (r 5)) ∧ V.cell? ⟨A.heap.size, 6, none⟩ = some (.int .u32 (r 6)) ∧ V.cell? ⟨A.heap.size, 7, none⟩ = some (.int .u32 (r 7)) ∧ Below w.heap.size w V ∧ V.frozen? ⟨A.heap.size, 0, none⟩ = false) ?_ ?_
          · (repeat' apply And.intro) <;> first | (simp [go_sem, *]; done) | (simp [go_sem]; done) | (go_grown; done) | trace_state
          rintro V ⟨v0, v1, v2, v3, v4, v5, v6, v7, v8, v9⟩
          refine (num_read k h20 r hr (r 3 % 2) hx2 V).mono ?_
          rintro e U ⟨a, b, c, y, rfl, hb⟩
          have m0 := keepc hb v0
          have m1 := keepc hb v1
          have m2 := keepc hb v2
          have m3 := keepc hb v3
          have m4 := keepc hb v4
          have m5 := keepc hb v5
          have m6 := keepc hb v6
          have m7 := keepc hb v7
          have m8 := bstep v8 hb
          have z0 : A.heap.size < U.heap.size := block_lt_of_cell m0
          have z1 : w.heap.size ≤ U.heap.size := m8.size
          have m9 : U.frozen? ⟨A.heap.size, 0, none⟩ = false := (hb.frozen (block_lt_of_cell v0)).trans v9
          clear hb v0 v1 v2 v3 v4 v5 v6 v7 v8 v9 y0 y1 y2 y3 y4 y5 y6 y7 y8 y9
          go_wp2_with fail
          all_goals first
            | (refine ⟨⟨k + 1, by omega, by go_num, k, ?_⟩, by simp [intOf]; omega⟩
               (repeat' apply And.intro) <;> first | (simp [go_sem, *]; done) | (simp [go_sem]; done) | exact Below.alloc m8 (by omega) _)
            | (exfalso; simp_all [nE]; done)
            | (exfalso; simp_all [nE]; omega)
            | trace_state
        · go_wp2_with fail
          refine (awake_any _).mono ?_
          rintro e1 w3 ⟨rfl, hb⟩
          go_wp2
          go_returns
          exact ⟨by simp, bstep y8 hb⟩
end Go.Proofs.Ytnhffghppjlbaaa
