/- How many ticks each partition has in a round. -/
import Derived.Test.YtlmgkdilidgkgaaSched5
namespace Go.Proofs.Ytlmgkdilidgkgaa
open Go.RowKit
set_option linter.unusedVariables false
set_option linter.unusedSimpArgs false
/-- eight numbers -/
def hc (f : Nat → Int) : Array Value := #[.int .i64 (f 0), .int .i64 (f 1), .int .i64 (f 2), .int .i64 (f 3), .int .i64 (f 4), .int .i64 (f 5), .int .i64 (f 6), .int .i64 (f 7)]
theorem hc_at (f : Nat → Int) (i : Nat) (h : i < 8) : (hc f)[i]? = some (.int .i64 (f i)) := by
  match i, h with
  | 0, _ => rfl
  | 1, _ => rfl
  | 2, _ => rfl
  | 3, _ => rfl
  | 4, _ => rfl
  | 5, _ => rfl
  | 6, _ => rfl
  | 7, _ => rfl
theorem hc_set (f : Nat → Int) (i : Nat) (h : i < 8) : (hc f).setIfInBounds i (.int .i64 (f i + 1)) = hc fun j => if j = i then f j + 1 else f j := by
  match i, h with
  | 0, _ => rfl
  | 1, _ => rfl
  | 2, _ => rfl
  | 3, _ => rfl
  | 4, _ => rfl
  | 5, _ => rfl
  | 6, _ => rfl
  | 7, _ => rfl
theorem zero_had (w : World) : (zeroValue 48).run Try.prog w = .ok (.agg (hc fun _ => 0)) w := by kernel_rfl
/-- ticks of a partition among so many -/
def cnt (C : Cfg) (t : Nat) : Nat → Nat → Int
  | 0, _ => 0
  | m + 1, i => cnt C t m i + if C.wp (stA C (t + m)) = i then 1 else 0
/-- ticks that windows say -/
def wantT (C : Cfg) : Nat → Nat → Int
  | 0, _ => 0
  | n + 1, i => wantT C n i + if C.wp n = i then C.wt n else 0
theorem cnt_bd (C : Cfg) (t : Nat) : ∀ m i, 0 ≤ cnt C t m i ∧ cnt C t m i ≤ m
  | 0, _ => ⟨Int.le_refl _, Int.le_refl _⟩
  | m + 1, i => by
    have := cnt_bd C t m i
    simp only [cnt]
    split <;> (push_cast; omega)
theorem cnt_step (C : Cfg) (t m q : Nat) (h : C.wp (stA C (t + m)) = q) : (fun j => if j = q then cnt C t m j + 1 else cnt C t m j) = cnt C t (m + 1) := by
  funext j
  simp only [cnt, h]
  by_cases e : j = q
  · subst e; simp
  · have : ¬ (q : Int) = j := by omega
    simp [e, this]
theorem cnt_shift (C : Cfg) (t i : Nat) : ∀ m, cnt C (t + 1) m i + (if C.wp (stA C t) = i then 1 else 0) = cnt C t m i + (if C.wp (stA C (t + m)) = i then 1 else 0)
  | 0 => by simp [cnt]
  | m + 1 => by
    have := cnt_shift C t i m
    simp only [cnt]
    rw [show t + 1 + m = t + (m + 1) by omega]
    omega
theorem stA_round (C : Cfg) (t : Nat) : stA C (t + majN C) = stA C t ∧ stG C (t + majN C) = stG C t := by
  unfold stG stA
  rw [Nat.add_mod_right]
  exact ⟨rfl, rfl⟩
theorem cnt_start (C : Cfg) (i : Nat) : ∀ t, cnt C t (majN C) i = cnt C 0 (majN C) i
  | 0 => rfl
  | t + 1 => by
    rw [← cnt_start C i t]
    have := cnt_shift C t i (majN C)
    rw [(stA_round C t).1] at this
    omega
theorem cnt_win {C : Cfg} (h : NumOk C) (i n : Nat) (hn : n < C.nW) (hr : cnt C 0 (sumF C.wt n).toNat i = wantT C n i) :
    ∀ j : Nat, (j : Int) ≤ C.wt n → cnt C 0 ((sumF C.wt n).toNat + j) i = wantT C n i + if C.wp n = i then (j : Int) else 0
  | 0, _ => by rw [Nat.add_zero, hr]; split <;> simp
  | j + 1, hj => by
    push_cast at hj
    have ih := cnt_win h i n hn hr j (by omega)
    have hm := majN_eq h
    have hb := (sumT_bd h.ticks (n := n) (by omega)).1
    have he : sumF C.wt (n + 1) = sumF C.wt n + C.wt n := rfl
    have hmono := sumT_mono h.ticks (a := n + 1) (b := C.nW) (by omega) (Nat.le_refl _)
    have hw : stA C ((sumF C.wt n).toNat + j) = n := by
      unfold stA
      unfold majT at hm
      rw [Nat.mod_eq_of_lt (by omega)]
      exact winAt_of h.ticks hn (by omega) (by omega)
    show cnt C 0 ((sumF C.wt n).toNat + j) i + (if C.wp (stA C (0 + ((sumF C.wt n).toNat + j))) = i then 1 else 0) = _
    rw [ih, Nat.zero_add, hw]
    push_cast
    split <;> omega
theorem cnt_all {C : Cfg} (h : NumOk C) (i : Nat) : ∀ n, n ≤ C.nW → cnt C 0 (sumF C.wt n).toNat i = wantT C n i
  | 0, _ => rfl
  | n + 1, hn => by
    have ih := cnt_all h i n (by omega)
    have ht := h.ticks n (by omega)
    have hb := (sumT_bd h.ticks (n := n) (by omega)).1
    have he : sumF C.wt (n + 1) = sumF C.wt n + C.wt n := rfl
    have := cnt_win h i n (by omega) ih (C.wt n).toNat (by omega)
    rw [show (sumF C.wt (n + 1)).toNat = (sumF C.wt n).toNat + (C.wt n).toNat by omega, this]
    simp only [wantT]
    rw [Int.toNat_of_nonneg (by omega)]
theorem cnt_round {C : Cfg} (h : NumOk C) (t i : Nat) : cnt C t (majN C) i = wantT C C.nW i := by
  rw [cnt_start, ← cnt_all h i C.nW (Nat.le_refl _)]
  have hm := majN_eq h
  unfold majT at hm
  congr 1
  omega
theorem wantT_bd {C : Cfg} (h : NumOk C) (i : Nat) : ∀ n, n ≤ C.nW → 0 ≤ wantT C n i ∧ wantT C n i ≤ n * 255
  | 0, _ => ⟨Int.le_refl _, Int.le_refl _⟩
  | n + 1, hn => by
    have ih := wantT_bd h i n (by omega)
    have ht := h.ticks n (by omega)
    simp only [wantT]
    split <;> (push_cast; omega)
end Go.Proofs.Ytlmgkdilidgkgaa
