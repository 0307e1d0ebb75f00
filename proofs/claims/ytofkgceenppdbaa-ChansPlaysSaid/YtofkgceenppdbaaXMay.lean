/- chans: has, May, Words. -/
import Derived.Test.YtofkgceenppdbaaXst
namespace Go.Proofs.Ytofkgceenppdbaa
open Go.RowKit
set_option linter.unusedVariables false
set_option linter.unusedSimpArgs false
theorem has_nil (ch : Int) (w : World) : Calls Try.prog 44 #[.pointer none, .int .i64 ch] w fun e w' => e = .returned (.bool false) ∧ w' = w := by
  go_enter Try.func44, Try.ntmps44
  go_wp2
  go_ret
  exact ⟨rfl, rfl⟩
theorem has_no (X n cap : Nat) (b : Bool) (p : Option Addr) (ch : Int) (w : World) (h : w.heap[X]? = some (.cells #[.bool b, .slice p n cap] 71 (0, 0))) (hc : ch < 0 ∨ n ≤ ch) :
    Calls Try.prog 44 #[.pointer (some ⟨X, 0, none⟩), .int .i64 ch] w fun e w' => e = .returned (.bool false) ∧ w' = w := by
  have c1 : w.cell? ⟨X, 1, none⟩ = some (.slice p n cap) := (bk_cell h 1).trans rfl
  clear h
  rcases hc with hc | hc
  · have d1 : ¬ (0 : Int) ≤ ch := by omega
    go_enter Try.func44, Try.ntmps44
    go_wp2
    go_ret
    exact ⟨rfl, rfl⟩
  · have d1 : (0 : Int) ≤ ch := by omega
    have d2 : ¬ ch < (n : Int) := by omega
    go_enter Try.func44, Try.ntmps44
    go_wp2
    go_ret
    exact ⟨rfl, rfl⟩
theorem has_yes (X n cap : Nat) (b : Bool) (p : Option Addr) (ch : Nat) (w : World) (h : w.heap[X]? = some (.cells #[.bool b, .slice p n cap] 71 (0, 0))) (hc : ch < n) :
    Calls Try.prog 44 #[.pointer (some ⟨X, 0, none⟩), .int .i64 ch] w fun e w' => e = .returned (.bool true) ∧ w' = w := by
  have c1 : w.cell? ⟨X, 1, none⟩ = some (.slice p n cap) := (bk_cell h 1).trans rfl
  clear h
  have d1 : (0 : Int) ≤ (ch : Int) := by omega
  have d2 : (ch : Int) < (n : Int) := by omega
  go_enter Try.func44, Try.ntmps44
  go_wp2
  go_ret
  exact ⟨rfl, rfl⟩
theorem may_nil (part ch : Int) (s : Bool) (w : World) : Calls Try.prog 25 #[.pointer none, .int .i64 part, .int .i64 ch, .bool s] w fun e w' => e = .returned (.int .i64 1) ∧ w' = w := by
  go_enter Try.func25, Try.ntmps25
  go_wp2
  go_ret
  exact ⟨rfl, rfl⟩
theorem may_zero (X n cap : Nat) (p : Option Addr) (part ch : Int) (s : Bool) (w : World) (h : w.heap[X]? = some (.cells #[.bool false, .slice p n cap] 71 (0, 0))) :
    Calls Try.prog 25 #[.pointer (some ⟨X, 0, none⟩), .int .i64 part, .int .i64 ch, .bool s] w fun e w' => e = .returned (.int .i64 1) ∧ w' = w := by
  have c0 : w.cell? ⟨X, 0, none⟩ = some (.bool false) := (bk_cell h 0).trans rfl
  clear h
  go_enter Try.func25, Try.ntmps25
  go_wp2
  go_ret
  exact ⟨rfl, rfl⟩
theorem may_no (X n cap : Nat) (p : Option Addr) (part ch : Int) (s : Bool) (w : World) (h : w.heap[X]? = some (.cells #[.bool true, .slice p n cap] 71 (0, 0))) (hc : ch < 0 ∨ n ≤ ch) :
    Calls Try.prog 25 #[.pointer (some ⟨X, 0, none⟩), .int .i64 part, .int .i64 ch, .bool s] w fun e w' => e = .returned (.int .i64 4) ∧ w' = w := by
  have HH := Lib.hid (has_no X n cap true p ch w h hc)
  have c0 : w.cell? ⟨X, 0, none⟩ = some (.bool true) := (bk_cell h 0).trans rfl
  clear h hc
  go_enter Try.func25, Try.ntmps25
  go_wp2_with fail
  refine HH.out.mono ?_; rintro e w1 ⟨rfl, rfl⟩
  go_wp2
  go_ret
  exact ⟨rfl, rfl⟩
theorem IsX.cells {w : World} {C : Cfg} {K : CX} {aa : Nat → Nat} {LL : Nat → List (List Int)} {M : Nat → Int} (h : IsX w C K aa LL M) {i : Nat} (hi : i < C.nC) :
    w.cell? ⟨K.X, 0, none⟩ = some (.bool true) ∧ w.cell? ⟨K.X, 1, none⟩ = some (.slice (some ⟨K.lb, 0, none⟩) C.nC K.cap) ∧
    w.cell? ⟨K.lb, i * 7, none⟩ = some (.pointer (some ⟨K.R i, 0, none⟩)) ∧ w.cell? ⟨K.lb, i * 7 + 1, none⟩ = some (.pointer (some ⟨K.mm, 0, none⟩)) ∧ w.cell? ⟨K.lb, i * 7 + 2, none⟩ = some (.int .i64 (frN C i)) ∧
    w.cell? ⟨K.lb, i * 7 + 3, none⟩ = some (.int .i64 (C.cf i)) ∧ w.cell? ⟨K.lb, i * 7 + 4, none⟩ = some (.int .i64 (C.ct i)) ∧ w.cell? ⟨K.lb, i * 7 + 5, none⟩ = some (.int .i64 (C.cc i)) ∧ w.cell? ⟨K.lb, i * 7 + 6, none⟩ = some (.int .i64 (C.cw i)) := by
  have hr := fun r (hr : r < 7) => h.row i hi r hr
  simp only [Nat.zero_add] at hr
  refine ⟨(bk_cell h.hX 0).trans rfl, ?_, hr 0 (by decide), hr 1 (by decide), hr 2 (by decide), hr 3 (by decide), hr 4 (by decide), hr 5 (by decide), hr 6 (by decide)⟩
  rw [← h.hp (by omega)]
  exact (bk_cell h.hX 1).trans rfl
/-- what May answers -/
def mayE (C : Cfg) (part ch : Int) (s : Bool) : Int :=
  if ch < 0 ∨ C.nC ≤ ch then 4 else if (s = true ∧ part ≠ C.cf ch.toNat) ∨ (s = false ∧ part ≠ C.ct ch.toNat) then 8 else 0
theorem may_x (C : Cfg) (K : CX) (aa : Nat → Nat) (LL : Nat → List (List Int)) (M : Nat → Int) (part ch : Int) (s : Bool) (w : World) (h : IsX w C K aa LL M) :
    Calls Try.prog 25 #[.pointer (some ⟨K.X, 0, none⟩), .int .i64 part, .int .i64 ch, .bool s] w fun e w' => e = .returned (.int .i64 (mayE C part ch s)) ∧ w' = w := by
  unfold mayE
  by_cases hc : ch < 0 ∨ C.nC ≤ ch
  · rw [if_pos hc]
    exact may_no K.X C.nC K.cap K.p part ch s w h.hX hc
  · rw [if_neg hc]
    obtain ⟨i, rfl⟩ : ∃ i : Nat, ch = i := ⟨ch.toNat, by omega⟩
    have hi : i < C.nC := by omega
    rw [Int.toNat_natCast]
    have HH := Lib.hid (has_yes K.X C.nC K.cap true K.p i w h.hX hi)
    obtain ⟨c0, c1, _, _, _, c3, c4, _⟩ := h.cells hi
    have hN := h.ck.1.N.2.2.2.2
    clear h hc
    obtain ⟨X, p, lb, cap, mm, fb, nF, R⟩ := K
    simp only at *
    cases s
    · by_cases hp : part = C.ct i
      · have e1 : (part == C.ct i) = true := by simp [hp]
        rw [if_neg (by simp [hp])]
        go_enter Try.func25, Try.ntmps25
        go_wp2_with fail
        refine HH.out.mono ?_; rintro e w1 ⟨rfl, rfl⟩
        go_wp2
        go_ret
        exact ⟨rfl, rfl⟩
      · have e1 : (part == C.ct i) = false := beq_eq_false_iff_ne.2 hp
        rw [if_pos (by simp [hp])]
        go_enter Try.func25, Try.ntmps25
        go_wp2_with fail
        refine HH.out.mono ?_; rintro e w1 ⟨rfl, rfl⟩
        go_wp2
        go_ret
        exact ⟨rfl, rfl⟩
    · by_cases hp : part = C.cf i
      · have e1 : (part == C.cf i) = true := by simp [hp]
        rw [if_neg (by simp [hp])]
        go_enter Try.func25, Try.ntmps25
        go_wp2_with fail
        refine HH.out.mono ?_; rintro e w1 ⟨rfl, rfl⟩
        go_wp2
        go_ret
        exact ⟨rfl, rfl⟩
      · have e1 : (part == C.cf i) = false := beq_eq_false_iff_ne.2 hp
        rw [if_pos (by simp [hp])]
        go_enter Try.func25, Try.ntmps25
        go_wp2_with fail
        refine HH.out.mono ?_; rintro e w1 ⟨rfl, rfl⟩
        go_wp2
        go_ret
        exact ⟨rfl, rfl⟩
theorem words_nil (ch : Int) (w : World) : Calls Try.prog 28 #[.pointer none, .int .i64 ch] w fun e w' => e = .returned (.int .i64 0) ∧ w' = w := by
  have HH := Lib.hid (has_nil ch w)
  go_enter Try.func28, Try.ntmps28
  go_wp2_with fail
  refine HH.out.mono ?_; rintro e w1 ⟨rfl, rfl⟩
  go_wp2
  go_ret
  exact ⟨rfl, rfl⟩
theorem words_no (X n cap : Nat) (b : Bool) (p : Option Addr) (ch : Int) (w : World) (h : w.heap[X]? = some (.cells #[.bool b, .slice p n cap] 71 (0, 0))) (hc : ch < 0 ∨ n ≤ ch) :
    Calls Try.prog 28 #[.pointer (some ⟨X, 0, none⟩), .int .i64 ch] w fun e w' => e = .returned (.int .i64 0) ∧ w' = w := by
  have HH := Lib.hid (has_no X n cap b p ch w h hc)
  clear h hc
  go_enter Try.func28, Try.ntmps28
  go_wp2_with fail
  refine HH.out.mono ?_; rintro e w1 ⟨rfl, rfl⟩
  go_wp2
  go_ret
  exact ⟨rfl, rfl⟩
theorem words_x (C : Cfg) (K : CX) (aa : Nat → Nat) (LL : Nat → List (List Int)) (M : Nat → Int) (i : Nat) (w : World) (h : IsX w C K aa LL M) (hi : i < C.nC) :
    Calls Try.prog 28 #[.pointer (some ⟨K.X, 0, none⟩), .int .i64 i] w fun e w' => e = .returned (.int .i64 (C.cw i)) ∧ w' = w := by
  have HH := Lib.hid (has_yes K.X C.nC K.cap true K.p i w h.hX hi)
  obtain ⟨c0, c1, _, _, _, _, _, _, c6⟩ := h.cells hi
  have hN := h.ck.1.N.2.2.2.2
  clear h
  obtain ⟨X, p, lb, cap, mm, fb, nF, R⟩ := K
  simp only at *
  go_enter Try.func28, Try.ntmps28
  go_wp2_with fail
  refine HH.out.mono ?_; rintro e w1 ⟨rfl, rfl⟩
  go_wp2
  go_ret
  exact ⟨rfl, rfl⟩
theorem room_nil (ch : Int) (w : World) : Calls Try.prog 20 #[.pointer none, .int .i64 ch] w fun e w' => e = .returned (.int .i64 0) ∧ w' = w := by
  have HH := Lib.hid (has_nil ch w)
  go_enter Try.func20, Try.ntmps20
  go_wp2_with fail
  refine HH.out.mono ?_; rintro e w1 ⟨rfl, rfl⟩
  go_wp2
  go_ret
  exact ⟨rfl, rfl⟩
theorem room_no (X n cap : Nat) (b : Bool) (p : Option Addr) (ch : Int) (w : World) (h : w.heap[X]? = some (.cells #[.bool b, .slice p n cap] 71 (0, 0))) (hc : ch < 0 ∨ n ≤ ch) :
    Calls Try.prog 20 #[.pointer (some ⟨X, 0, none⟩), .int .i64 ch] w fun e w' => e = .returned (.int .i64 0) ∧ w' = w := by
  have HH := Lib.hid (has_no X n cap b p ch w h hc)
  clear h hc
  go_enter Try.func20, Try.ntmps20
  go_wp2_with fail
  refine HH.out.mono ?_; rintro e w1 ⟨rfl, rfl⟩
  go_wp2
  go_ret
  exact ⟨rfl, rfl⟩
end Go.Proofs.Ytofkgceenppdbaa
