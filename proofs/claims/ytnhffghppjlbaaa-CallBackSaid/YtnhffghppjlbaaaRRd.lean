/- Helper text of this seat (RRd): contracts of functions of the given program and of its references, each told by its theorem. -/
import Derived.Test.YtnhffghppjlbaaaSpec
namespace Go.Proofs.Ytnhffghppjlbaaa
open Go.RowKit
set_option linter.unusedVariables false
set_option linter.unusedSimpArgs false
set_option maxHeartbeats 1000000 in
theorem rread_0 (r1 r2 r3 r4 r5 r6 r7 : Int) (w : World) (a1 : 0 ≤ r1) (b1 : r1 < 4294967296) (a2 : 0 ≤ r2) (b2 : r2 < 4294967296) (a3 : 0 ≤ r3) (b3 : r3 < 4294967296) :
    Calls Try.prog 10 #[.agg #[.int .u32 0, .int .u32 r1, .int .u32 r2, .int .u32 r3, .int .u32 r4, .int .u32 r5, .int .u32 r6, .int .u32 r7]] w fun e w' => e = .returned (.tuple #[.agg #[.int .i64 0, .int .i64 0, .int .i64 0, .int .u32 0, .bool false], .int .i64 0]) ∧ Below w.heap.size w w' := by
  go_enter Try.func10, Try.ntmps10
  go_wp2
  refine bodyPost_ret (by simp [results, Try.results10, go_sem, *]; try rfl) rfl ?_
  exact ⟨rfl, by go_grown⟩
set_option maxHeartbeats 1000000 in
theorem rread_1 (r1 r2 r3 r4 r5 r6 r7 : Int) (w : World) (a1 : 0 ≤ r1) (b1 : r1 < 4294967296) (a2 : 0 ≤ r2) (b2 : r2 < 4294967296) (a3 : 0 ≤ r3) (b3 : r3 < 4294967296) :
    Calls Try.prog 10 #[.agg #[.int .u32 1, .int .u32 r1, .int .u32 r2, .int .u32 r3, .int .u32 r4, .int .u32 r5, .int .u32 r6, .int .u32 r7]] w fun e w' => e = .returned (.tuple #[.agg #[.int .i64 1, .int .i64 0, .int .i64 0, .int .u32 0, .bool false], .int .i64 0]) ∧ Below w.heap.size w w' := by
  go_enter Try.func10, Try.ntmps10
  go_wp2
  refine bodyPost_ret (by simp [results, Try.results10, go_sem, *]; try rfl) rfl ?_
  exact ⟨rfl, by go_grown⟩
set_option maxHeartbeats 1000000 in
theorem rread_2 (r1 r2 r3 r4 r5 r6 r7 : Int) (w : World) (a1 : 0 ≤ r1) (b1 : r1 < 4294967296) (a2 : 0 ≤ r2) (b2 : r2 < 4294967296) (a3 : 0 ≤ r3) (b3 : r3 < 4294967296) :
    Calls Try.prog 10 #[.agg #[.int .u32 2, .int .u32 r1, .int .u32 r2, .int .u32 r3, .int .u32 r4, .int .u32 r5, .int .u32 r6, .int .u32 r7]] w fun e w' => e = .returned (.tuple #[.agg #[.int .i64 2, .int .i64 0, .int .i64 0, .int .u32 0, .bool false], .int .i64 0]) ∧ Below w.heap.size w w' := by
  go_enter Try.func10, Try.ntmps10
  go_wp2
  refine bodyPost_ret (by simp [results, Try.results10, go_sem, *]; try rfl) rfl ?_
  exact ⟨rfl, by go_grown⟩
set_option maxHeartbeats 1000000 in
theorem rread_3_bad (r1 r2 r3 r4 r5 r6 r7 : Int) (w : World) (a1 : 0 ≤ r1) (b1 : r1 < 4294967296) (a2 : 0 ≤ r2) (b2 : r2 < 4294967296) (a3 : 0 ≤ r3) (b3 : r3 < 4294967296) (h3 : 1 < r3) :
    Calls Try.prog 10 #[.agg #[.int .u32 3, .int .u32 r1, .int .u32 r2, .int .u32 r3, .int .u32 r4, .int .u32 r5, .int .u32 r6, .int .u32 r7]] w fun e w' => e = .returned (.tuple #[.agg #[.int .i64 0, .int .i64 0, .int .i64 0, .int .u32 0, .bool false], .int .i64 2]) ∧ Below w.heap.size w w' := by
  go_enter Try.func10, Try.ntmps10
  go_wp2
  refine bodyPost_ret (by simp [results, Try.results10, go_sem, *]; try rfl) rfl ?_
  exact ⟨rfl, by go_grown⟩
set_option maxHeartbeats 1000000 in
theorem rread_3 (r1 r2 r3 r4 r5 r6 r7 : Int) (w : World) (a1 : 0 ≤ r1) (b1 : r1 < 4294967296) (a2 : 0 ≤ r2) (b2 : r2 < 4294967296) (a3 : 0 ≤ r3) (b3 : r3 < 4294967296) (h3 : ¬ 1 < r3) :
    Calls Try.prog 10 #[.agg #[.int .u32 3, .int .u32 r1, .int .u32 r2, .int .u32 r3, .int .u32 r4, .int .u32 r5, .int .u32 r6, .int .u32 r7]] w fun e w' => e = .returned (.tuple #[.agg #[.int .i64 3, .int .i64 r1, .int .i64 r2, .int .u32 0, .bool (r3 == 1)], .int .i64 0]) ∧ Below w.heap.size w w' := by
  go_enter Try.func10, Try.ntmps10
  go_wp2
  refine bodyPost_ret (by simp [results, Try.results10, go_sem, *]; try rfl) rfl ?_
  exact ⟨rfl, by go_grown⟩
set_option maxHeartbeats 1000000 in
theorem rread_4 (r1 r2 r3 r4 r5 r6 r7 : Int) (w : World) (a1 : 0 ≤ r1) (b1 : r1 < 4294967296) (a2 : 0 ≤ r2) (b2 : r2 < 4294967296) (a3 : 0 ≤ r3) (b3 : r3 < 4294967296) :
    Calls Try.prog 10 #[.agg #[.int .u32 4, .int .u32 r1, .int .u32 r2, .int .u32 r3, .int .u32 r4, .int .u32 r5, .int .u32 r6, .int .u32 r7]] w fun e w' => e = .returned (.tuple #[.agg #[.int .i64 4, .int .i64 r1, .int .i64 r2, .int .u32 0, .bool false], .int .i64 0]) ∧ Below w.heap.size w w' := by
  go_enter Try.func10, Try.ntmps10
  go_wp2
  refine bodyPost_ret (by simp [results, Try.results10, go_sem, *]; try rfl) rfl ?_
  exact ⟨rfl, by go_grown⟩
set_option maxHeartbeats 1000000 in
theorem rread_5_bad (r1 r2 r3 r4 r5 r6 r7 : Int) (w : World) (a1 : 0 ≤ r1) (b1 : r1 < 4294967296) (a2 : 0 ≤ r2) (b2 : r2 < 4294967296) (a3 : 0 ≤ r3) (b3 : r3 < 4294967296) (h3 : 1 < r3) :
    Calls Try.prog 10 #[.agg #[.int .u32 5, .int .u32 r1, .int .u32 r2, .int .u32 r3, .int .u32 r4, .int .u32 r5, .int .u32 r6, .int .u32 r7]] w fun e w' => e = .returned (.tuple #[.agg #[.int .i64 0, .int .i64 0, .int .i64 0, .int .u32 0, .bool false], .int .i64 2]) ∧ Below w.heap.size w w' := by
  go_enter Try.func10, Try.ntmps10
  go_wp2
  refine bodyPost_ret (by simp [results, Try.results10, go_sem, *]; try rfl) rfl ?_
  exact ⟨rfl, by go_grown⟩
set_option maxHeartbeats 1000000 in
theorem rread_5 (r1 r2 r3 r4 r5 r6 r7 : Int) (w : World) (a1 : 0 ≤ r1) (b1 : r1 < 4294967296) (a2 : 0 ≤ r2) (b2 : r2 < 4294967296) (a3 : 0 ≤ r3) (b3 : r3 < 4294967296) (h3 : ¬ 1 < r3) :
    Calls Try.prog 10 #[.agg #[.int .u32 5, .int .u32 r1, .int .u32 r2, .int .u32 r3, .int .u32 r4, .int .u32 r5, .int .u32 r6, .int .u32 r7]] w fun e w' => e = .returned (.tuple #[.agg #[.int .i64 5, .int .i64 r1, .int .i64 r2, .int .u32 0, .bool (r3 == 1)], .int .i64 0]) ∧ Below w.heap.size w w' := by
  go_enter Try.func10, Try.ntmps10
  go_wp2
  refine bodyPost_ret (by simp [results, Try.results10, go_sem, *]; try rfl) rfl ?_
  exact ⟨rfl, by go_grown⟩
set_option maxHeartbeats 1000000 in
theorem rread_6 (r1 r2 r3 r4 r5 r6 r7 : Int) (w : World) (a1 : 0 ≤ r1) (b1 : r1 < 4294967296) (a2 : 0 ≤ r2) (b2 : r2 < 4294967296) (a3 : 0 ≤ r3) (b3 : r3 < 4294967296) :
    Calls Try.prog 10 #[.agg #[.int .u32 6, .int .u32 r1, .int .u32 r2, .int .u32 r3, .int .u32 r4, .int .u32 r5, .int .u32 r6, .int .u32 r7]] w fun e w' => e = .returned (.tuple #[.agg #[.int .i64 6, .int .i64 r1, .int .i64 0, .int .u32 0, .bool false], .int .i64 0]) ∧ Below w.heap.size w w' := by
  go_enter Try.func10, Try.ntmps10
  go_wp2
  refine bodyPost_ret (by simp [results, Try.results10, go_sem, *]; try rfl) rfl ?_
  exact ⟨rfl, by go_grown⟩
set_option maxHeartbeats 1000000 in
theorem rread_7 (r1 r2 r3 r4 r5 r6 r7 : Int) (w : World) (a1 : 0 ≤ r1) (b1 : r1 < 4294967296) (a2 : 0 ≤ r2) (b2 : r2 < 4294967296) (a3 : 0 ≤ r3) (b3 : r3 < 4294967296) :
    Calls Try.prog 10 #[.agg #[.int .u32 7, .int .u32 r1, .int .u32 r2, .int .u32 r3, .int .u32 r4, .int .u32 r5, .int .u32 r6, .int .u32 r7]] w fun e w' => e = .returned (.tuple #[.agg #[.int .i64 7, .int .i64 r1, .int .i64 0, .int .u32 r2, .bool false], .int .i64 0]) ∧ Below w.heap.size w w' := by
  go_enter Try.func10, Try.ntmps10
  go_wp2
  refine bodyPost_ret (by simp [results, Try.results10, go_sem, *]; try rfl) rfl ?_
  exact ⟨rfl, by go_grown⟩
set_option maxHeartbeats 1000000 in
theorem rread_8 (r1 r2 r3 r4 r5 r6 r7 : Int) (w : World) (a1 : 0 ≤ r1) (b1 : r1 < 4294967296) (a2 : 0 ≤ r2) (b2 : r2 < 4294967296) (a3 : 0 ≤ r3) (b3 : r3 < 4294967296) :
    Calls Try.prog 10 #[.agg #[.int .u32 8, .int .u32 r1, .int .u32 r2, .int .u32 r3, .int .u32 r4, .int .u32 r5, .int .u32 r6, .int .u32 r7]] w fun e w' => e = .returned (.tuple #[.agg #[.int .i64 8, .int .i64 0, .int .i64 0, .int .u32 r1, .bool false], .int .i64 0]) ∧ Below w.heap.size w w' := by
  go_enter Try.func10, Try.ntmps10
  go_wp2
  refine bodyPost_ret (by simp [results, Try.results10, go_sem, *]; try rfl) rfl ?_
  exact ⟨rfl, by go_grown⟩
set_option maxHeartbeats 1000000 in
theorem rread_9 (r1 r2 r3 r4 r5 r6 r7 : Int) (w : World) (a1 : 0 ≤ r1) (b1 : r1 < 4294967296) (a2 : 0 ≤ r2) (b2 : r2 < 4294967296) (a3 : 0 ≤ r3) (b3 : r3 < 4294967296) :
    Calls Try.prog 10 #[.agg #[.int .u32 9, .int .u32 r1, .int .u32 r2, .int .u32 r3, .int .u32 r4, .int .u32 r5, .int .u32 r6, .int .u32 r7]] w fun e w' => e = .returned (.tuple #[.agg #[.int .i64 9, .int .i64 0, .int .i64 0, .int .u32 0, .bool false], .int .i64 0]) ∧ Below w.heap.size w w' := by
  go_enter Try.func10, Try.ntmps10
  go_wp2
  refine bodyPost_ret (by simp [results, Try.results10, go_sem, *]; try rfl) rfl ?_
  exact ⟨rfl, by go_grown⟩
set_option maxHeartbeats 1000000 in
theorem rread_10 (r1 r2 r3 r4 r5 r6 r7 : Int) (w : World) (a1 : 0 ≤ r1) (b1 : r1 < 4294967296) (a2 : 0 ≤ r2) (b2 : r2 < 4294967296) (a3 : 0 ≤ r3) (b3 : r3 < 4294967296) :
    Calls Try.prog 10 #[.agg #[.int .u32 10, .int .u32 r1, .int .u32 r2, .int .u32 r3, .int .u32 r4, .int .u32 r5, .int .u32 r6, .int .u32 r7]] w fun e w' => e = .returned (.tuple #[.agg #[.int .i64 10, .int .i64 r1, .int .i64 0, .int .u32 r2, .bool false], .int .i64 0]) ∧ Below w.heap.size w w' := by
  go_enter Try.func10, Try.ntmps10
  go_wp2
  refine bodyPost_ret (by simp [results, Try.results10, go_sem, *]; try rfl) rfl ?_
  exact ⟨rfl, by go_grown⟩
set_option maxHeartbeats 1000000 in
theorem rread_11 (r1 r2 r3 r4 r5 r6 r7 : Int) (w : World) (a1 : 0 ≤ r1) (b1 : r1 < 4294967296) (a2 : 0 ≤ r2) (b2 : r2 < 4294967296) (a3 : 0 ≤ r3) (b3 : r3 < 4294967296) :
    Calls Try.prog 10 #[.agg #[.int .u32 11, .int .u32 r1, .int .u32 r2, .int .u32 r3, .int .u32 r4, .int .u32 r5, .int .u32 r6, .int .u32 r7]] w fun e w' => e = .returned (.tuple #[.agg #[.int .i64 11, .int .i64 r1, .int .i64 r3, .int .u32 r2, .bool false], .int .i64 0]) ∧ Below w.heap.size w w' := by
  go_enter Try.func10, Try.ntmps10
  go_wp2
  refine bodyPost_ret (by simp [results, Try.results10, go_sem, *]; try rfl) rfl ?_
  exact ⟨rfl, by go_grown⟩
set_option maxHeartbeats 1000000 in
theorem rread_12 (r1 r2 r3 r4 r5 r6 r7 : Int) (w : World) (a1 : 0 ≤ r1) (b1 : r1 < 4294967296) (a2 : 0 ≤ r2) (b2 : r2 < 4294967296) (a3 : 0 ≤ r3) (b3 : r3 < 4294967296) :
    Calls Try.prog 10 #[.agg #[.int .u32 12, .int .u32 r1, .int .u32 r2, .int .u32 r3, .int .u32 r4, .int .u32 r5, .int .u32 r6, .int .u32 r7]] w fun e w' => e = .returned (.tuple #[.agg #[.int .i64 12, .int .i64 r1, .int .i64 r3, .int .u32 r2, .bool false], .int .i64 0]) ∧ Below w.heap.size w w' := by
  go_enter Try.func10, Try.ntmps10
  go_wp2
  refine bodyPost_ret (by simp [results, Try.results10, go_sem, *]; try rfl) rfl ?_
  exact ⟨rfl, by go_grown⟩
set_option maxHeartbeats 1000000 in
theorem rread_none (r0 r1 r2 r3 r4 r5 r6 r7 : Int) (w : World) (a1 : 0 ≤ r1) (b1 : r1 < 4294967296) (a2 : 0 ≤ r2) (b2 : r2 < 4294967296) (a3 : 0 ≤ r3) (b3 : r3 < 4294967296) (h0 : 12 < r0) (b0 : r0 < 4294967296) :
    Calls Try.prog 10 #[.agg #[.int .u32 r0, .int .u32 r1, .int .u32 r2, .int .u32 r3, .int .u32 r4, .int .u32 r5, .int .u32 r6, .int .u32 r7]] w fun e w' => e = .returned (.tuple #[.agg #[.int .i64 0, .int .i64 0, .int .i64 0, .int .u32 0, .bool false], .int .i64 10]) ∧ Below w.heap.size w w' := by
  go_enter Try.func10, Try.ntmps10
  go_wp2
  refine bodyPost_ret (by simp [results, Try.results10, go_sem, *]; try rfl) rfl ?_
  exact ⟨rfl, by go_grown⟩
theorem rread_any (r : Nat → Int) (hr : Words r) (w : World) :
    Calls Try.prog 10 #[.agg (regs r)] w fun e w' => e = .returned (.tuple #[.agg #[.int .i64 (sNo r), .int .i64 (sA r), .int .i64 (sB r), .int .u32 (sC r), .bool (sW r)], .int .i64 (sE r)]) ∧ Below w.heap.size w w' := by
  obtain ⟨k, hk⟩ : ∃ k : Nat, r 0 = k := ⟨(r 0).toNat, by have := hr 0; omega⟩
  have hkn : (r 0).toNat = k := by omega
  have g1 := hr 1
  have g2 := hr 2
  have g3 := hr 3
  by_cases h13 : k < 13
  · revert hk hkn
    refine cases13 (P := fun k => r 0 = k → (r 0).toNat = k → _) ?_ ?_ ?_ ?_ ?_ ?_ ?_ ?_ ?_ ?_ ?_ ?_ ?_ k h13
    · intro hk hkn
      have h := rread_0 (r 1) (r 2) (r 3) (r 4) (r 5) (r 6) (r 7) w g1.1 g1.2 g2.1 g2.2 g3.1 g3.2
      have er : regs r = #[.int .u32 0, .int .u32 (r 1), .int .u32 (r 2), .int .u32 (r 3), .int .u32 (r 4), .int .u32 (r 5), .int .u32 (r 6), .int .u32 (r 7)] := by unfold regs; rw [hk]; rfl
      rw [er]
      refine h.mono fun e1 w' ⟨h1, h2⟩ => ⟨?_, h2⟩
      rw [h1]
      simp [sNo, sA, sB, sC, sW, sE, hk, tA, tB, tC, tW, fl]
    · intro hk hkn
      have h := rread_1 (r 1) (r 2) (r 3) (r 4) (r 5) (r 6) (r 7) w g1.1 g1.2 g2.1 g2.2 g3.1 g3.2
      have er : regs r = #[.int .u32 1, .int .u32 (r 1), .int .u32 (r 2), .int .u32 (r 3), .int .u32 (r 4), .int .u32 (r 5), .int .u32 (r 6), .int .u32 (r 7)] := by unfold regs; rw [hk]; rfl
      rw [er]
      refine h.mono fun e1 w' ⟨h1, h2⟩ => ⟨?_, h2⟩
      rw [h1]
      simp [sNo, sA, sB, sC, sW, sE, hk, tA, tB, tC, tW, fl]
    · intro hk hkn
      have h := rread_2 (r 1) (r 2) (r 3) (r 4) (r 5) (r 6) (r 7) w g1.1 g1.2 g2.1 g2.2 g3.1 g3.2
      have er : regs r = #[.int .u32 2, .int .u32 (r 1), .int .u32 (r 2), .int .u32 (r 3), .int .u32 (r 4), .int .u32 (r 5), .int .u32 (r 6), .int .u32 (r 7)] := by unfold regs; rw [hk]; rfl
      rw [er]
      refine h.mono fun e1 w' ⟨h1, h2⟩ => ⟨?_, h2⟩
      rw [h1]
      simp [sNo, sA, sB, sC, sW, sE, hk, tA, tB, tC, tW, fl]
    · intro hk hkn
      by_cases h3 : 1 < r 3
      · have h := rread_3_bad (r 1) (r 2) (r 3) (r 4) (r 5) (r 6) (r 7) w g1.1 g1.2 g2.1 g2.2 g3.1 g3.2 h3
        have er : regs r = #[.int .u32 3, .int .u32 (r 1), .int .u32 (r 2), .int .u32 (r 3), .int .u32 (r 4), .int .u32 (r 5), .int .u32 (r 6), .int .u32 (r 7)] := by unfold regs; rw [hk]; rfl
        rw [er]
        refine h.mono fun e1 w' ⟨h1, h2⟩ => ⟨?_, h2⟩
        rw [h1]
        simp [sNo, sA, sB, sC, sW, sE, hk, tA, tB, tC, tW, fl, h3]
      · have h := rread_3 (r 1) (r 2) (r 3) (r 4) (r 5) (r 6) (r 7) w g1.1 g1.2 g2.1 g2.2 g3.1 g3.2 h3
        have er : regs r = #[.int .u32 3, .int .u32 (r 1), .int .u32 (r 2), .int .u32 (r 3), .int .u32 (r 4), .int .u32 (r 5), .int .u32 (r 6), .int .u32 (r 7)] := by unfold regs; rw [hk]; rfl
        rw [er]
        refine h.mono fun e1 w' ⟨h1, h2⟩ => ⟨?_, h2⟩
        rw [h1]
        simp [sNo, sA, sB, sC, sW, sE, hk, tA, tB, tC, tW, fl, h3]
    · intro hk hkn
      have h := rread_4 (r 1) (r 2) (r 3) (r 4) (r 5) (r 6) (r 7) w g1.1 g1.2 g2.1 g2.2 g3.1 g3.2
      have er : regs r = #[.int .u32 4, .int .u32 (r 1), .int .u32 (r 2), .int .u32 (r 3), .int .u32 (r 4), .int .u32 (r 5), .int .u32 (r 6), .int .u32 (r 7)] := by unfold regs; rw [hk]; rfl
      rw [er]
      refine h.mono fun e1 w' ⟨h1, h2⟩ => ⟨?_, h2⟩
      rw [h1]
      simp [sNo, sA, sB, sC, sW, sE, hk, tA, tB, tC, tW, fl]
    · intro hk hkn
      by_cases h3 : 1 < r 3
      · have h := rread_5_bad (r 1) (r 2) (r 3) (r 4) (r 5) (r 6) (r 7) w g1.1 g1.2 g2.1 g2.2 g3.1 g3.2 h3
        have er : regs r = #[.int .u32 5, .int .u32 (r 1), .int .u32 (r 2), .int .u32 (r 3), .int .u32 (r 4), .int .u32 (r 5), .int .u32 (r 6), .int .u32 (r 7)] := by unfold regs; rw [hk]; rfl
        rw [er]
        refine h.mono fun e1 w' ⟨h1, h2⟩ => ⟨?_, h2⟩
        rw [h1]
        simp [sNo, sA, sB, sC, sW, sE, hk, tA, tB, tC, tW, fl, h3]
      · have h := rread_5 (r 1) (r 2) (r 3) (r 4) (r 5) (r 6) (r 7) w g1.1 g1.2 g2.1 g2.2 g3.1 g3.2 h3
        have er : regs r = #[.int .u32 5, .int .u32 (r 1), .int .u32 (r 2), .int .u32 (r 3), .int .u32 (r 4), .int .u32 (r 5), .int .u32 (r 6), .int .u32 (r 7)] := by unfold regs; rw [hk]; rfl
        rw [er]
        refine h.mono fun e1 w' ⟨h1, h2⟩ => ⟨?_, h2⟩
        rw [h1]
        simp [sNo, sA, sB, sC, sW, sE, hk, tA, tB, tC, tW, fl, h3]
    · intro hk hkn
      have h := rread_6 (r 1) (r 2) (r 3) (r 4) (r 5) (r 6) (r 7) w g1.1 g1.2 g2.1 g2.2 g3.1 g3.2
      have er : regs r = #[.int .u32 6, .int .u32 (r 1), .int .u32 (r 2), .int .u32 (r 3), .int .u32 (r 4), .int .u32 (r 5), .int .u32 (r 6), .int .u32 (r 7)] := by unfold regs; rw [hk]; rfl
      rw [er]
      refine h.mono fun e1 w' ⟨h1, h2⟩ => ⟨?_, h2⟩
      rw [h1]
      simp [sNo, sA, sB, sC, sW, sE, hk, tA, tB, tC, tW, fl]
    · intro hk hkn
      have h := rread_7 (r 1) (r 2) (r 3) (r 4) (r 5) (r 6) (r 7) w g1.1 g1.2 g2.1 g2.2 g3.1 g3.2
      have er : regs r = #[.int .u32 7, .int .u32 (r 1), .int .u32 (r 2), .int .u32 (r 3), .int .u32 (r 4), .int .u32 (r 5), .int .u32 (r 6), .int .u32 (r 7)] := by unfold regs; rw [hk]; rfl
      rw [er]
      refine h.mono fun e1 w' ⟨h1, h2⟩ => ⟨?_, h2⟩
      rw [h1]
      simp [sNo, sA, sB, sC, sW, sE, hk, tA, tB, tC, tW, fl]
    · intro hk hkn
      have h := rread_8 (r 1) (r 2) (r 3) (r 4) (r 5) (r 6) (r 7) w g1.1 g1.2 g2.1 g2.2 g3.1 g3.2
      have er : regs r = #[.int .u32 8, .int .u32 (r 1), .int .u32 (r 2), .int .u32 (r 3), .int .u32 (r 4), .int .u32 (r 5), .int .u32 (r 6), .int .u32 (r 7)] := by unfold regs; rw [hk]; rfl
      rw [er]
      refine h.mono fun e1 w' ⟨h1, h2⟩ => ⟨?_, h2⟩
      rw [h1]
      simp [sNo, sA, sB, sC, sW, sE, hk, tA, tB, tC, tW, fl]
    · intro hk hkn
      have h := rread_9 (r 1) (r 2) (r 3) (r 4) (r 5) (r 6) (r 7) w g1.1 g1.2 g2.1 g2.2 g3.1 g3.2
      have er : regs r = #[.int .u32 9, .int .u32 (r 1), .int .u32 (r 2), .int .u32 (r 3), .int .u32 (r 4), .int .u32 (r 5), .int .u32 (r 6), .int .u32 (r 7)] := by unfold regs; rw [hk]; rfl
      rw [er]
      refine h.mono fun e1 w' ⟨h1, h2⟩ => ⟨?_, h2⟩
      rw [h1]
      simp [sNo, sA, sB, sC, sW, sE, hk, tA, tB, tC, tW, fl]
    · intro hk hkn
      have h := rread_10 (r 1) (r 2) (r 3) (r 4) (r 5) (r 6) (r 7) w g1.1 g1.2 g2.1 g2.2 g3.1 g3.2
      have er : regs r = #[.int .u32 10, .int .u32 (r 1), .int .u32 (r 2), .int .u32 (r 3), .int .u32 (r 4), .int .u32 (r 5), .int .u32 (r 6), .int .u32 (r 7)] := by unfold regs; rw [hk]; rfl
      rw [er]
      refine h.mono fun e1 w' ⟨h1, h2⟩ => ⟨?_, h2⟩
      rw [h1]
      simp [sNo, sA, sB, sC, sW, sE, hk, tA, tB, tC, tW, fl]
    · intro hk hkn
      have h := rread_11 (r 1) (r 2) (r 3) (r 4) (r 5) (r 6) (r 7) w g1.1 g1.2 g2.1 g2.2 g3.1 g3.2
      have er : regs r = #[.int .u32 11, .int .u32 (r 1), .int .u32 (r 2), .int .u32 (r 3), .int .u32 (r 4), .int .u32 (r 5), .int .u32 (r 6), .int .u32 (r 7)] := by unfold regs; rw [hk]; rfl
      rw [er]
      refine h.mono fun e1 w' ⟨h1, h2⟩ => ⟨?_, h2⟩
      rw [h1]
      simp [sNo, sA, sB, sC, sW, sE, hk, tA, tB, tC, tW, fl]
    · intro hk hkn
      have h := rread_12 (r 1) (r 2) (r 3) (r 4) (r 5) (r 6) (r 7) w g1.1 g1.2 g2.1 g2.2 g3.1 g3.2
      have er : regs r = #[.int .u32 12, .int .u32 (r 1), .int .u32 (r 2), .int .u32 (r 3), .int .u32 (r 4), .int .u32 (r 5), .int .u32 (r 6), .int .u32 (r 7)] := by unfold regs; rw [hk]; rfl
      rw [er]
      refine h.mono fun e1 w' ⟨h1, h2⟩ => ⟨?_, h2⟩
      rw [h1]
      simp [sNo, sA, sB, sC, sW, sE, hk, tA, tB, tC, tW, fl]
  · have er : regs r = #[.int .u32 (r 0), .int .u32 (r 1), .int .u32 (r 2), .int .u32 (r 3), .int .u32 (r 4), .int .u32 (r 5), .int .u32 (r 6), .int .u32 (r 7)] := rfl
    rw [er]
    refine (rread_none (r 0) (r 1) (r 2) (r 3) (r 4) (r 5) (r 6) (r 7) w g1.1 g1.2 g2.1 g2.2 g3.1 g3.2 (by omega) (hr 0).2).mono fun e1 w' ⟨h1, h2⟩ => ⟨?_, h2⟩
    have e : sE r = 10 := by simp [sE]; omega
    have e0 : ¬ sE r = 0 := by omega
    rw [h1, e]
    simp only [sNo, sA, sB, sC, sW, if_neg e0]
end Go.Proofs.Ytnhffghppjlbaaa
