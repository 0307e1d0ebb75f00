/- Helper text of this seat (PutAny): contracts of functions of the given program and of its references, each told by its theorem. -/
import Derived.Test.YtnhffghppjlbaaaRPut0
import Derived.Test.YtnhffghppjlbaaaRPut1
import Derived.Test.YtnhffghppjlbaaaRPut2
import Derived.Test.YtnhffghppjlbaaaRPut3
namespace Go.Proofs.Ytnhffghppjlbaaa
open Go.RowKit
set_option linter.unusedVariables false
set_option linter.unusedSimpArgs false
/-- what Put answers -/
noncomputable def putE (n A B C : Int) (W : Bool) : Int := if n < 0 ∨ 13 ≤ n then 10 else pE (tA n.toNat) (tB n.toNat) (tC n.toNat) (tW n.toNat) A B C W
noncomputable def putR (n A B C : Int) (W : Bool) : Nat → Int := if n < 0 ∨ 13 ≤ n then rz else pR n.toNat (tA n.toNat) (tB n.toNat) (tC n.toNat) (tW n.toNat) A B C W
theorem put_any (n A B C : Int) (W : Bool) (w : World) (hC : 0 ≤ C ∧ C < 4294967296) :
    Calls Try.prog 13 #[.agg #[.int .i64 n, .int .i64 A, .int .i64 B, .int .u32 C, .bool W]] w fun e w' => e = .returned (.tuple #[.agg (regs (putR n A B C W)), .int .i64 (putE n A B C W)]) ∧ Below w.heap.size w w' := by
  by_cases hn : n < 0 ∨ 13 ≤ n
  · rw [putR, putE, if_pos hn, if_pos hn]
    exact put_none n A B C W w hn
  · rw [putR, putE, if_neg hn, if_neg hn]
    obtain ⟨k, rfl⟩ : ∃ k : Nat, n = k := ⟨n.toNat, by omega⟩
    obtain ⟨t0, t1, t2, t3⟩ := tbl_at k (by omega)
    obtain ⟨l0, l1, l2, l3⟩ := t_lt k (by omega)
    exact put_in k _ _ _ _ A B C W w (by omega) t0 t1 t2 t3 l0 l1 l2 l3 hC
set_option maxHeartbeats 2000000 in
theorem rput_none (n A B C : Int) (W : Bool) (w : World) (hn : n < 0 ∨ 13 ≤ n) :
    Calls Try.prog 14 #[.agg #[.int .i64 n, .int .i64 A, .int .i64 B, .int .u32 C, .bool W]] w fun e w' => e = .returned (.tuple #[.agg (regs rz), .int .i64 10]) ∧ Below w.heap.size w w' := by
  rcases hn with hn | hn
  · go_enter Try.func14, Try.ntmps14
    go_wp2
    refine bodyPost_ret (by simp [results, Try.results14, go_sem, *]; try rfl) rfl ?_
    exact ⟨rfl, by go_grown⟩
  · have h0 : ¬ n < 0 := by omega
    have h1 : 12 < n := by omega
    go_enter Try.func14, Try.ntmps14
    go_wp2
    refine bodyPost_ret (by simp [results, Try.results14, go_sem, *]; try rfl) rfl ?_
    exact ⟨rfl, by go_grown⟩
set_option maxHeartbeats 2000000 in
theorem rput_unfit (n A B C : Int) (W : Bool) (w : World) (hn : 0 ≤ n) (hn2 : n < 13) (hf : fitB A = false ∨ fitB B = false) :
    Calls Try.prog 14 #[.agg #[.int .i64 n, .int .i64 A, .int .i64 B, .int .u32 C, .bool W]] w fun e w' => e = .returned (.tuple #[.agg (regs rz), .int .i64 2]) ∧ Below w.heap.size w w' := by
  have h0 : ¬ n < 0 := by omega
  have h1 : ¬ 12 < n := by omega
  cases hA : fitB A
  · go_enter Try.func14, Try.ntmps14
    go_wp2_with fail
    refine (fits_any _ _).mono ?_; rintro e w' ⟨rfl, rfl⟩
    go_wp2
    refine bodyPost_ret (by simp [results, Try.results14, go_sem, *]; try rfl) rfl ?_
    exact ⟨rfl, by go_grown⟩
  · have hB : fitB B = false := by rcases hf with h | h <;> simp_all
    clear hf
    go_enter Try.func14, Try.ntmps14
    go_wp2_with fail
    refine (fits_any _ _).mono ?_; rintro e w' ⟨rfl, rfl⟩
    go_wp2_with fail
    refine (fits_any _ _).mono ?_; rintro e w' ⟨rfl, rfl⟩
    go_wp2
    refine bodyPost_ret (by simp [results, Try.results14, go_sem, *]; try rfl) rfl ?_
    exact ⟨rfl, by go_grown⟩
/-- a walk's two arms, told by what may be put -/
theorem join {D : Prop} {k ta tb tc tw : Nat} {A B C : Int} {W : Bool} {cells : Array Value} {e : Ending} (h : (D → e = .returned (.tuple #[.agg cells, .int .i64 0])) ∧ (¬ D → e = .returned (.tuple #[.agg (regs rz), .int .i64 2])))
    (hD : D ↔ OkPut ta tb tc tw A B C W) (hR : D → cells = regs (pR k ta tb tc tw A B C W)) :
    e = .returned (.tuple #[.agg (regs (pR k ta tb tc tw A B C W)), .int .i64 (pE ta tb tc tw A B C W)]) := by
  by_cases hd : D
  · rw [h.1 hd, pE_ok (hD.1 hd), hR hd]
  · have := mt hD.2 hd
    rw [h.2 hd, pE_bad this, pR_bad this]
set_option maxHeartbeats 2000000 in
theorem rput_in (k : Nat) (A B C : Int) (W : Bool) (w : World) (hk : k < 13) (hA : 0 ≤ A ∧ A < 4294967296) (hB : 0 ≤ B ∧ B < 4294967296) (hC : 0 ≤ C ∧ C < 4294967296) :
    Calls Try.prog 14 #[.agg #[.int .i64 k, .int .i64 A, .int .i64 B, .int .u32 C, .bool W]] w fun e w' => e = .returned (.tuple #[.agg (regs (pR k (tA k) (tB k) (tC k) (tW k) A B C W)), .int .i64 (pE (tA k) (tB k) (tC k) (tW k) A B C W)]) ∧ Below w.heap.size w w' := by
  refine cases13 (P := fun k => Calls Try.prog 14 #[.agg #[.int .i64 k, .int .i64 A, .int .i64 B, .int .u32 C, .bool W]] w fun e w' => e = .returned (.tuple #[.agg (regs (pR k (tA k) (tB k) (tC k) (tW k) A B C W)), .int .i64 (pE (tA k) (tB k) (tC k) (tW k) A B C W)]) ∧ Below w.heap.size w w') ?_ ?_ ?_ ?_ ?_ ?_ ?_ ?_ ?_ ?_ ?_ ?_ ?_ k hk
  · cases W
    · refine (rput_0_false A B C w hA hB hC).mono fun e w' h => ⟨?_, h.2⟩
      refine join h.1 ?_ ?_
      · simp only [OkPut, Fit, tA, tB, tC, tW, List.getD_cons_zero, List.getD_cons_succ]
        simp
        try omega
      · intro hD
        have hok : OkPut (tA 0) (tB 0) (tC 0) (tW 0) A B C false := by
          simp only [OkPut, Fit, tA, tB, tC, tW, List.getD_cons_zero, List.getD_cons_succ]
          simp at hD ⊢
          try omega
        rw [pR_ok0 hok]
        simp [regs, upd, st, rk, rz, tA, tB, tC, tW]
        try omega
    · refine (rput_0_true A B C w hA hB hC).mono fun e w' h => ⟨?_, h.2⟩
      refine join h.1 ?_ ?_
      · simp only [OkPut, Fit, tA, tB, tC, tW, List.getD_cons_zero, List.getD_cons_succ]
        simp
        try omega
      · intro hD
        have hok : OkPut (tA 0) (tB 0) (tC 0) (tW 0) A B C true := by
          simp only [OkPut, Fit, tA, tB, tC, tW, List.getD_cons_zero, List.getD_cons_succ]
          simp at hD ⊢
          try omega
        rw [pR_ok hok]
        simp [regs, upd, st, rk, rz, tA, tB, tC, tW]
        try omega
  · cases W
    · refine (rput_1_false A B C w hA hB hC).mono fun e w' h => ⟨?_, h.2⟩
      refine join h.1 ?_ ?_
      · simp only [OkPut, Fit, tA, tB, tC, tW, List.getD_cons_zero, List.getD_cons_succ]
        simp
        try omega
      · intro hD
        have hok : OkPut (tA 1) (tB 1) (tC 1) (tW 1) A B C false := by
          simp only [OkPut, Fit, tA, tB, tC, tW, List.getD_cons_zero, List.getD_cons_succ]
          simp at hD ⊢
          try omega
        rw [pR_ok0 hok]
        simp [regs, upd, st, rk, rz, tA, tB, tC, tW]
        try omega
    · refine (rput_1_true A B C w hA hB hC).mono fun e w' h => ⟨?_, h.2⟩
      refine join h.1 ?_ ?_
      · simp only [OkPut, Fit, tA, tB, tC, tW, List.getD_cons_zero, List.getD_cons_succ]
        simp
        try omega
      · intro hD
        have hok : OkPut (tA 1) (tB 1) (tC 1) (tW 1) A B C true := by
          simp only [OkPut, Fit, tA, tB, tC, tW, List.getD_cons_zero, List.getD_cons_succ]
          simp at hD ⊢
          try omega
        rw [pR_ok hok]
        simp [regs, upd, st, rk, rz, tA, tB, tC, tW]
        try omega
  · cases W
    · refine (rput_2_false A B C w hA hB hC).mono fun e w' h => ⟨?_, h.2⟩
      refine join h.1 ?_ ?_
      · simp only [OkPut, Fit, tA, tB, tC, tW, List.getD_cons_zero, List.getD_cons_succ]
        simp
        try omega
      · intro hD
        have hok : OkPut (tA 2) (tB 2) (tC 2) (tW 2) A B C false := by
          simp only [OkPut, Fit, tA, tB, tC, tW, List.getD_cons_zero, List.getD_cons_succ]
          simp at hD ⊢
          try omega
        rw [pR_ok0 hok]
        simp [regs, upd, st, rk, rz, tA, tB, tC, tW]
        try omega
    · refine (rput_2_true A B C w hA hB hC).mono fun e w' h => ⟨?_, h.2⟩
      refine join h.1 ?_ ?_
      · simp only [OkPut, Fit, tA, tB, tC, tW, List.getD_cons_zero, List.getD_cons_succ]
        simp
        try omega
      · intro hD
        have hok : OkPut (tA 2) (tB 2) (tC 2) (tW 2) A B C true := by
          simp only [OkPut, Fit, tA, tB, tC, tW, List.getD_cons_zero, List.getD_cons_succ]
          simp at hD ⊢
          try omega
        rw [pR_ok hok]
        simp [regs, upd, st, rk, rz, tA, tB, tC, tW]
        try omega
  · cases W
    · refine (rput_3_false A B C w hA hB hC).mono fun e w' h => ⟨?_, h.2⟩
      refine join h.1 ?_ ?_
      · simp only [OkPut, Fit, tA, tB, tC, tW, List.getD_cons_zero, List.getD_cons_succ]
        simp
        try omega
      · intro hD
        have hok : OkPut (tA 3) (tB 3) (tC 3) (tW 3) A B C false := by
          simp only [OkPut, Fit, tA, tB, tC, tW, List.getD_cons_zero, List.getD_cons_succ]
          simp at hD ⊢
          try omega
        rw [pR_ok0 hok]
        simp [regs, upd, st, rk, rz, tA, tB, tC, tW]
        try omega
    · refine (rput_3_true A B C w hA hB hC).mono fun e w' h => ⟨?_, h.2⟩
      refine join h.1 ?_ ?_
      · simp only [OkPut, Fit, tA, tB, tC, tW, List.getD_cons_zero, List.getD_cons_succ]
        simp
        try omega
      · intro hD
        have hok : OkPut (tA 3) (tB 3) (tC 3) (tW 3) A B C true := by
          simp only [OkPut, Fit, tA, tB, tC, tW, List.getD_cons_zero, List.getD_cons_succ]
          simp at hD ⊢
          try omega
        rw [pR_ok hok]
        simp [regs, upd, st, rk, rz, tA, tB, tC, tW]
        try omega
  · cases W
    · refine (rput_4_false A B C w hA hB hC).mono fun e w' h => ⟨?_, h.2⟩
      refine join h.1 ?_ ?_
      · simp only [OkPut, Fit, tA, tB, tC, tW, List.getD_cons_zero, List.getD_cons_succ]
        simp
        try omega
      · intro hD
        have hok : OkPut (tA 4) (tB 4) (tC 4) (tW 4) A B C false := by
          simp only [OkPut, Fit, tA, tB, tC, tW, List.getD_cons_zero, List.getD_cons_succ]
          simp at hD ⊢
          try omega
        rw [pR_ok0 hok]
        simp [regs, upd, st, rk, rz, tA, tB, tC, tW]
        try omega
    · refine (rput_4_true A B C w hA hB hC).mono fun e w' h => ⟨?_, h.2⟩
      refine join h.1 ?_ ?_
      · simp only [OkPut, Fit, tA, tB, tC, tW, List.getD_cons_zero, List.getD_cons_succ]
        simp
        try omega
      · intro hD
        have hok : OkPut (tA 4) (tB 4) (tC 4) (tW 4) A B C true := by
          simp only [OkPut, Fit, tA, tB, tC, tW, List.getD_cons_zero, List.getD_cons_succ]
          simp at hD ⊢
          try omega
        rw [pR_ok hok]
        simp [regs, upd, st, rk, rz, tA, tB, tC, tW]
        try omega
  · cases W
    · refine (rput_5_false A B C w hA hB hC).mono fun e w' h => ⟨?_, h.2⟩
      refine join h.1 ?_ ?_
      · simp only [OkPut, Fit, tA, tB, tC, tW, List.getD_cons_zero, List.getD_cons_succ]
        simp
        try omega
      · intro hD
        have hok : OkPut (tA 5) (tB 5) (tC 5) (tW 5) A B C false := by
          simp only [OkPut, Fit, tA, tB, tC, tW, List.getD_cons_zero, List.getD_cons_succ]
          simp at hD ⊢
          try omega
        rw [pR_ok0 hok]
        simp [regs, upd, st, rk, rz, tA, tB, tC, tW]
        try omega
    · refine (rput_5_true A B C w hA hB hC).mono fun e w' h => ⟨?_, h.2⟩
      refine join h.1 ?_ ?_
      · simp only [OkPut, Fit, tA, tB, tC, tW, List.getD_cons_zero, List.getD_cons_succ]
        simp
        try omega
      · intro hD
        have hok : OkPut (tA 5) (tB 5) (tC 5) (tW 5) A B C true := by
          simp only [OkPut, Fit, tA, tB, tC, tW, List.getD_cons_zero, List.getD_cons_succ]
          simp at hD ⊢
          try omega
        rw [pR_ok hok]
        simp [regs, upd, st, rk, rz, tA, tB, tC, tW]
        try omega
  · cases W
    · refine (rput_6_false A B C w hA hB hC).mono fun e w' h => ⟨?_, h.2⟩
      refine join h.1 ?_ ?_
      · simp only [OkPut, Fit, tA, tB, tC, tW, List.getD_cons_zero, List.getD_cons_succ]
        simp
        try omega
      · intro hD
        have hok : OkPut (tA 6) (tB 6) (tC 6) (tW 6) A B C false := by
          simp only [OkPut, Fit, tA, tB, tC, tW, List.getD_cons_zero, List.getD_cons_succ]
          simp at hD ⊢
          try omega
        rw [pR_ok0 hok]
        simp [regs, upd, st, rk, rz, tA, tB, tC, tW]
        try omega
    · refine (rput_6_true A B C w hA hB hC).mono fun e w' h => ⟨?_, h.2⟩
      refine join h.1 ?_ ?_
      · simp only [OkPut, Fit, tA, tB, tC, tW, List.getD_cons_zero, List.getD_cons_succ]
        simp
        try omega
      · intro hD
        have hok : OkPut (tA 6) (tB 6) (tC 6) (tW 6) A B C true := by
          simp only [OkPut, Fit, tA, tB, tC, tW, List.getD_cons_zero, List.getD_cons_succ]
          simp at hD ⊢
          try omega
        rw [pR_ok hok]
        simp [regs, upd, st, rk, rz, tA, tB, tC, tW]
        try omega
  · cases W
    · refine (rput_7_false A B C w hA hB hC).mono fun e w' h => ⟨?_, h.2⟩
      refine join h.1 ?_ ?_
      · simp only [OkPut, Fit, tA, tB, tC, tW, List.getD_cons_zero, List.getD_cons_succ]
        simp
        try omega
      · intro hD
        have hok : OkPut (tA 7) (tB 7) (tC 7) (tW 7) A B C false := by
          simp only [OkPut, Fit, tA, tB, tC, tW, List.getD_cons_zero, List.getD_cons_succ]
          simp at hD ⊢
          try omega
        rw [pR_ok0 hok]
        simp [regs, upd, st, rk, rz, tA, tB, tC, tW]
        try omega
    · refine (rput_7_true A B C w hA hB hC).mono fun e w' h => ⟨?_, h.2⟩
      refine join h.1 ?_ ?_
      · simp only [OkPut, Fit, tA, tB, tC, tW, List.getD_cons_zero, List.getD_cons_succ]
        simp
        try omega
      · intro hD
        have hok : OkPut (tA 7) (tB 7) (tC 7) (tW 7) A B C true := by
          simp only [OkPut, Fit, tA, tB, tC, tW, List.getD_cons_zero, List.getD_cons_succ]
          simp at hD ⊢
          try omega
        rw [pR_ok hok]
        simp [regs, upd, st, rk, rz, tA, tB, tC, tW]
        try omega
  · cases W
    · refine (rput_8_false A B C w hA hB hC).mono fun e w' h => ⟨?_, h.2⟩
      refine join h.1 ?_ ?_
      · simp only [OkPut, Fit, tA, tB, tC, tW, List.getD_cons_zero, List.getD_cons_succ]
        simp
        try omega
      · intro hD
        have hok : OkPut (tA 8) (tB 8) (tC 8) (tW 8) A B C false := by
          simp only [OkPut, Fit, tA, tB, tC, tW, List.getD_cons_zero, List.getD_cons_succ]
          simp at hD ⊢
          try omega
        rw [pR_ok0 hok]
        simp [regs, upd, st, rk, rz, tA, tB, tC, tW]
        try omega
    · refine (rput_8_true A B C w hA hB hC).mono fun e w' h => ⟨?_, h.2⟩
      refine join h.1 ?_ ?_
      · simp only [OkPut, Fit, tA, tB, tC, tW, List.getD_cons_zero, List.getD_cons_succ]
        simp
        try omega
      · intro hD
        have hok : OkPut (tA 8) (tB 8) (tC 8) (tW 8) A B C true := by
          simp only [OkPut, Fit, tA, tB, tC, tW, List.getD_cons_zero, List.getD_cons_succ]
          simp at hD ⊢
          try omega
        rw [pR_ok hok]
        simp [regs, upd, st, rk, rz, tA, tB, tC, tW]
        try omega
  · cases W
    · refine (rput_9_false A B C w hA hB hC).mono fun e w' h => ⟨?_, h.2⟩
      refine join h.1 ?_ ?_
      · simp only [OkPut, Fit, tA, tB, tC, tW, List.getD_cons_zero, List.getD_cons_succ]
        simp
        try omega
      · intro hD
        have hok : OkPut (tA 9) (tB 9) (tC 9) (tW 9) A B C false := by
          simp only [OkPut, Fit, tA, tB, tC, tW, List.getD_cons_zero, List.getD_cons_succ]
          simp at hD ⊢
          try omega
        rw [pR_ok0 hok]
        simp [regs, upd, st, rk, rz, tA, tB, tC, tW]
        try omega
    · refine (rput_9_true A B C w hA hB hC).mono fun e w' h => ⟨?_, h.2⟩
      refine join h.1 ?_ ?_
      · simp only [OkPut, Fit, tA, tB, tC, tW, List.getD_cons_zero, List.getD_cons_succ]
        simp
        try omega
      · intro hD
        have hok : OkPut (tA 9) (tB 9) (tC 9) (tW 9) A B C true := by
          simp only [OkPut, Fit, tA, tB, tC, tW, List.getD_cons_zero, List.getD_cons_succ]
          simp at hD ⊢
          try omega
        rw [pR_ok hok]
        simp [regs, upd, st, rk, rz, tA, tB, tC, tW]
        try omega
  · cases W
    · refine (rput_10_false A B C w hA hB hC).mono fun e w' h => ⟨?_, h.2⟩
      refine join h.1 ?_ ?_
      · simp only [OkPut, Fit, tA, tB, tC, tW, List.getD_cons_zero, List.getD_cons_succ]
        simp
        try omega
      · intro hD
        have hok : OkPut (tA 10) (tB 10) (tC 10) (tW 10) A B C false := by
          simp only [OkPut, Fit, tA, tB, tC, tW, List.getD_cons_zero, List.getD_cons_succ]
          simp at hD ⊢
          try omega
        rw [pR_ok0 hok]
        simp [regs, upd, st, rk, rz, tA, tB, tC, tW]
        try omega
    · refine (rput_10_true A B C w hA hB hC).mono fun e w' h => ⟨?_, h.2⟩
      refine join h.1 ?_ ?_
      · simp only [OkPut, Fit, tA, tB, tC, tW, List.getD_cons_zero, List.getD_cons_succ]
        simp
        try omega
      · intro hD
        have hok : OkPut (tA 10) (tB 10) (tC 10) (tW 10) A B C true := by
          simp only [OkPut, Fit, tA, tB, tC, tW, List.getD_cons_zero, List.getD_cons_succ]
          simp at hD ⊢
          try omega
        rw [pR_ok hok]
        simp [regs, upd, st, rk, rz, tA, tB, tC, tW]
        try omega
  · cases W
    · refine (rput_11_false A B C w hA hB hC).mono fun e w' h => ⟨?_, h.2⟩
      refine join h.1 ?_ ?_
      · simp only [OkPut, Fit, tA, tB, tC, tW, List.getD_cons_zero, List.getD_cons_succ]
        simp
        try omega
      · intro hD
        have hok : OkPut (tA 11) (tB 11) (tC 11) (tW 11) A B C false := by
          simp only [OkPut, Fit, tA, tB, tC, tW, List.getD_cons_zero, List.getD_cons_succ]
          simp at hD ⊢
          try omega
        rw [pR_ok0 hok]
        simp [regs, upd, st, rk, rz, tA, tB, tC, tW]
        try omega
    · refine (rput_11_true A B C w hA hB hC).mono fun e w' h => ⟨?_, h.2⟩
      refine join h.1 ?_ ?_
      · simp only [OkPut, Fit, tA, tB, tC, tW, List.getD_cons_zero, List.getD_cons_succ]
        simp
        try omega
      · intro hD
        have hok : OkPut (tA 11) (tB 11) (tC 11) (tW 11) A B C true := by
          simp only [OkPut, Fit, tA, tB, tC, tW, List.getD_cons_zero, List.getD_cons_succ]
          simp at hD ⊢
          try omega
        rw [pR_ok hok]
        simp [regs, upd, st, rk, rz, tA, tB, tC, tW]
        try omega
  · cases W
    · refine (rput_12_false A B C w hA hB hC).mono fun e w' h => ⟨?_, h.2⟩
      refine join h.1 ?_ ?_
      · simp only [OkPut, Fit, tA, tB, tC, tW, List.getD_cons_zero, List.getD_cons_succ]
        simp
        try omega
      · intro hD
        have hok : OkPut (tA 12) (tB 12) (tC 12) (tW 12) A B C false := by
          simp only [OkPut, Fit, tA, tB, tC, tW, List.getD_cons_zero, List.getD_cons_succ]
          simp at hD ⊢
          try omega
        rw [pR_ok0 hok]
        simp [regs, upd, st, rk, rz, tA, tB, tC, tW]
        try omega
    · refine (rput_12_true A B C w hA hB hC).mono fun e w' h => ⟨?_, h.2⟩
      refine join h.1 ?_ ?_
      · simp only [OkPut, Fit, tA, tB, tC, tW, List.getD_cons_zero, List.getD_cons_succ]
        simp
        try omega
      · intro hD
        have hok : OkPut (tA 12) (tB 12) (tC 12) (tW 12) A B C true := by
          simp only [OkPut, Fit, tA, tB, tC, tW, List.getD_cons_zero, List.getD_cons_succ]
          simp at hD ⊢
          try omega
        rw [pR_ok hok]
        simp [regs, upd, st, rk, rz, tA, tB, tC, tW]
        try omega
theorem rput_any (n A B C : Int) (W : Bool) (w : World) (hC : 0 ≤ C ∧ C < 4294967296) :
    Calls Try.prog 14 #[.agg #[.int .i64 n, .int .i64 A, .int .i64 B, .int .u32 C, .bool W]] w fun e w' => e = .returned (.tuple #[.agg (regs (putR n A B C W)), .int .i64 (putE n A B C W)]) ∧ Below w.heap.size w w' := by
  by_cases hn : n < 0 ∨ 13 ≤ n
  · rw [putR, putE, if_pos hn, if_pos hn]
    exact rput_none n A B C W w hn
  · rw [putR, putE, if_neg hn, if_neg hn]
    by_cases hA : 0 ≤ A ∧ A < 4294967296
    · by_cases hB : 0 ≤ B ∧ B < 4294967296
      · obtain ⟨k, rfl⟩ : ∃ k : Nat, n = k := ⟨n.toNat, by omega⟩
        exact rput_in k A B C W w (by omega) hA hB hC
      · have hbad : ¬ OkPut (tA n.toNat) (tB n.toNat) (tC n.toNat) (tW n.toNat) A B C W := fun h => hB h.1.2.1.1
        rw [pR_bad hbad, pE_bad hbad]
        exact rput_unfit n A B C W w (by omega) (by omega) (.inr (by simp [fitB]; omega))
    · have hbad : ¬ OkPut (tA n.toNat) (tB n.toNat) (tC n.toNat) (tW n.toNat) A B C W := fun h => hA h.1.1.1
      rw [pR_bad hbad, pE_bad hbad]
      exact rput_unfit n A B C W w (by omega) (by omega) (.inl (by simp [fitB]; omega))
end Go.Proofs.Ytnhffghppjlbaaa
