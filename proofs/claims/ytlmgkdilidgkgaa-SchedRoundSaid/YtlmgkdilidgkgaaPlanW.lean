/- plan's Major; the windows tick by tick. -/
import Derived.Test.YtlmgkdilidgkgaaConf4
namespace Go.Proofs.Ytlmgkdilidgkgaa
open Go.RowKit
set_option linter.unusedVariables false
set_option linter.unusedSimpArgs false
/-- the windows of the first n, tick by tick -/
def rowTo (C : Cfg) : Nat → List Nat
  | 0 => []
  | n + 1 => rowTo C n ++ List.replicate (C.wt n).toNat n
def TicksOk (C : Cfg) : Prop := ∀ i, i < C.nW → 1 ≤ C.wt i ∧ C.wt i ≤ 255
theorem NumOk.ticks {C : Cfg} (h : NumOk C) : TicksOk C := fun i hi => by
  have := h.2.2.1 i hi
  simp [okW, inB] at this
  omega
theorem NumOk.part {C : Cfg} (h : NumOk C) {i : Nat} (hi : i < C.nW) : 0 ≤ C.wp i ∧ C.wp i < C.nP := by
  have := h.2.2.1 i hi
  simp [okW, inB] at this
  omega
theorem rowTo_length {C : Cfg} (h : TicksOk C) : ∀ n, n ≤ C.nW → ((rowTo C n).length : Int) = sumF C.wt n
  | 0, _ => rfl
  | n + 1, hn => by
    have := rowTo_length h n (by omega)
    have := h n (by omega)
    simp only [rowTo, List.length_append, List.length_replicate, sumF]
    push_cast
    omega
theorem sumT_bd {C : Cfg} (h : TicksOk C) {n : Nat} (hn : n ≤ C.nW) : n ≤ sumF C.wt n ∧ sumF C.wt n ≤ n * 255 := by
  induction n with
  | zero => simp [sumF]
  | succ n ih =>
    have := ih (by omega)
    have := h n (by omega)
    simp only [sumF]
    push_cast
    omega
theorem rowTo_get {C : Cfg} (h : TicksOk C) {x : Nat} : ∀ n, n ≤ C.nW → ∀ i, i < n → sumF C.wt i ≤ x → (x : Int) < sumF C.wt (i + 1) → (rowTo C n)[x]? = some i
  | 0, _, i, hi, _, _ => by omega
  | n + 1, hn, i, hi, h1, h2 => by
    have hl := rowTo_length h n (by omega)
    simp only [rowTo]
    by_cases hin : i < n
    · have hb : sumF C.wt (i + 1) ≤ sumF C.wt n := by
        clear h1 h2 hl
        obtain ⟨d, rfl⟩ : ∃ d, n = i + 1 + d := ⟨n - (i + 1), by omega⟩
        clear hi hin
        induction d with
        | zero => exact Int.le_refl _
        | succ d ih =>
          have := ih (by omega)
          have := h (i + 1 + d) (by omega)
          show _ ≤ sumF C.wt (i + 1 + d) + C.wt (i + 1 + d)
          omega
      rw [List.getElem?_append_left (by omega)]
      exact rowTo_get h n (by omega) i hin h1 h2
    · have e : i = n := by omega
      subst e
      rw [List.getElem?_append_right (by omega), List.getElem?_replicate, if_pos]
      have := h i (by omega)
      have : sumF C.wt (i + 1) = sumF C.wt i + C.wt i := rfl
      omega
theorem sumT_mono {C : Cfg} (h : TicksOk C) {a b : Nat} (hab : a ≤ b) (hb : b ≤ C.nW) : sumF C.wt a ≤ sumF C.wt b := by
  obtain ⟨d, rfl⟩ : ∃ d, b = a + d := ⟨b - a, by omega⟩
  clear hab
  induction d with
  | zero => exact Int.le_refl _
  | succ d ih =>
    have := ih (by omega)
    have := h (a + d) (by omega)
    show _ ≤ sumF C.wt (a + d) + C.wt (a + d)
    omega
/-- whose place it is at a tick -/
def rowL (C : Cfg) : List Nat := rowTo C C.nW
def winAt (C : Cfg) (x : Nat) : Nat := (rowL C).getD x 0
theorem winAt_of {C : Cfg} (h : TicksOk C) {i x : Nat} (hi : i < C.nW) (h1 : sumF C.wt i ≤ x) (h2 : (x : Int) < sumF C.wt (i + 1)) : winAt C x = i := by
  unfold winAt rowL
  rw [List.getD_eq_getElem?_getD, rowTo_get h C.nW (Nat.le_refl _) i hi h1 h2]
  rfl
theorem win_exists {C : Cfg} (h : TicksOk C) {x : Nat} : ∀ n, n ≤ C.nW → (x : Int) < sumF C.wt n → ∃ i, i < n ∧ sumF C.wt i ≤ x ∧ (x : Int) < sumF C.wt (i + 1)
  | 0, _, hx => by simp [sumF] at hx; omega
  | n + 1, hn, hx => by
    by_cases hl : (x : Int) < sumF C.wt n
    · obtain ⟨i, hi, h1, h2⟩ := win_exists h n (by omega) hl
      exact ⟨i, by omega, h1, h2⟩
    · exact ⟨n, by omega, by omega, hx⟩
theorem winAt_spec {C : Cfg} (h : TicksOk C) {x : Nat} (hx : (x : Int) < sumF C.wt C.nW) : winAt C x < C.nW ∧ sumF C.wt (winAt C x) ≤ x ∧ (x : Int) < sumF C.wt (winAt C x + 1) := by
  obtain ⟨i, hi, h1, h2⟩ := win_exists h C.nW (Nat.le_refl _) hx
  rw [winAt_of h hi h1 h2]
  exact ⟨hi, h1, h2⟩
/-- the major frame -/
def majT (C : Cfg) : Int := sumF C.wt C.nW
theorem NumOk.maj {C : Cfg} (h : NumOk C) : 1 ≤ majT C ∧ majT C ≤ 8160 := by
  have := sumT_bd h.ticks (Nat.le_refl C.nW)
  have := h.N
  unfold majT
  omega
open Classical in
noncomputable def majR (C : Cfg) : Int := if CkOk C then majT C else 0
theorem majR_ok {C : Cfg} (h : CkOk C) : majR C = majT C := if_pos h
theorem majR_bad {C : Cfg} (h : ¬ CkOk C) : majR C = 0 := if_neg h
theorem ckE_ne {C : Cfg} (h : ¬ CkOk C) : (ckE C == 0) = false := beq_eq_false_iff_ne.2 (by rcases ckE_cases C with ⟨h', _⟩ | ⟨_, h' | h'⟩ <;> first | exact absurd h' h | omega)
set_option maxHeartbeats 1000000 in
theorem major_any (C : Cfg) (l : Lay) (w : World) (h : IsC w C l) (hN : C.nP ≤ 1000000 ∧ C.nW ≤ 1000000 ∧ C.nC ≤ 1000000) :
    Calls Try.prog 19 #[.agg (cfgV C l)] w fun e w' => e = .returned (.tuple #[.int .i64 (majR C), .int .i64 (ckE C)]) ∧ Below w.heap.size w w' := by
  have hck := fun (W : World) (h : IsC W C l) => check_any C l W h hN
  have HI := Lib.hid h
  clear h hN
  obtain ⟨pP, cP, pW, cW, pC, cC⟩ := l
  unfold cfgV at *
  simp only at *
  by_cases hok : CkOk C
  case neg =>
    have hne := ckE_ne hok
    rw [majR_bad hok]
    generalize ckE C = er at *
    have HCK := Lib.hid hck
    clear hck hok
    go_enter Try.func19, Try.ntmps19
    go_wp2_with fail
    refine (HCK.out _ (by exact HI.out.below (by go_grown))).mono ?_; rintro e w1 ⟨rfl, hb⟩
    go_wp2
    go_ret2
    exact ⟨rfl, bstep (by go_grown) hb⟩
  case pos =>
  rw [ckE_ok hok] at hck ⊢
  rw [majR_ok hok]
  have HCK := Lib.hid hck
  have HT := Lib.hid hok.1.ticks
  have hNN := hok.1.N
  clear hck hok
  go_enter Try.func19, Try.ntmps19
  go_wp2_with fail
  refine (HCK.out _ (by exact HI.out.below (by go_grown))).mono ?_; rintro e w1 ⟨rfl, hb⟩
  have hB1 : Below w.heap.size w w1 := bstep (by go_grown) hb
  have hv0 : w1.heap[w.heap.size]? = some (.cells #[.slice pP C.nP cP, .slice pW C.nW cW, .slice pC C.nC cC] 26 (0, 0)) := bk_below (bk_new w _) hb
  have HI1 := Lib.hid (HI.out.below hB1)
  have HB1 := Lib.hid hB1
  have c1 : w1.cell? ⟨w.heap.size, 1, none⟩ = some (.slice pW C.nW cW) := (bk_cell hv0 1).trans rfl
  clear hb hB1 hv0
  go_wp2_with fail
  go_loopw [5, 16] (fun v n W' => ∃ k : Nat, k ≤ C.nW ∧ n = .int .i64 k ∧ v = .int .i64 (sumF C.wt k) ∧ Below w1.heap.size w1 W') (fun _ n _ => C.nW - (intOf n).toNat)
  case atStart => exact ⟨0, by omega, rfl, rfl, Below.refl _ _⟩
  case round =>
    obtain ⟨k, hk, rfl, rfl, hb⟩ := hrel
    have HBk := Lib.hid hb
    have hz := hb.size
    have hsum := sumT_bd HT.out hk
    clear hb
    by_cases hkn : k < C.nW
    · have hkn' : (k : Int) < C.nW := by omega
      have hbd := HT.out k hkn
      rcases HI1.out.W with h0 | ⟨b, o, e5, hc⟩
      · omega
      simp only at e5
      subst e5
      have x0 := keepc HBk.out (hc k hkn).1
      have x1 := keepc HBk.out (hc k hkn).2
      have HST := Lib.hid (show sumF C.wt (k + 1) = sumF C.wt k + C.wt k from rfl)
      generalize sumF C.wt k = sm at *
      generalize C.wp k = pk at *
      generalize C.wt k = tk at *
      have s2 : IntKind.i64.wrap (sm + tk) = sm + tk := IntWalk.i64_in _ (by omega)
      clear hc
      go_wp2
      refine ⟨⟨k + 1, by omega, by go_num, by rw [HST.out], HBk.out.alloc HBk.out.size _⟩, by simp [intOf]; omega⟩
    · have hkn2 : k = C.nW := by omega
      subst hkn2
      go_wp2
      go_ret2
      exact ⟨rfl, bstep HB1.out HBk.out⟩
open Classical in
/-- whose turn it is -/
noncomputable def turnW (C : Cfg) (t : Int) : Nat := if CkOk C then winAt C (t % majT C).toNat else 0
open Classical in
noncomputable def turnP (C : Cfg) (t : Int) : Int := if CkOk C then C.wp (winAt C (t % majT C).toNat) else 0
end Go.Proofs.Ytlmgkdilidgkgaa
