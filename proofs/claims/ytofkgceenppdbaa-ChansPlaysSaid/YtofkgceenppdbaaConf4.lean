/- conf's Frames and Check. -/
import Derived.Test.YtofkgceenppdbaaConf3
import Derived.Deep.QuietTactic
import Derived.BigQuiet
namespace Go.Proofs.Ytofkgceenppdbaa
open Go.RowKit
set_option linter.unusedVariables false
set_option linter.unusedSimpArgs false
/-- the frames of a partition, of a channel -/
def fP (C : Cfg) (i : Nat) : Int := C.q i + (C.s i + 2) / 3
def fC (C : Cfg) (i : Nat) : Int := (C.cc i * (C.cw i + 1) + 31) / 32
def sumF (f : Nat → Int) : Nat → Int
  | 0 => 0
  | k + 1 => sumF f k + f k
theorem NumOk.P {C : Cfg} (h : NumOk C) {i : Nat} (hi : i < C.nP) : 4 ≤ C.q i ∧ C.q i ≤ 256 ∧ 1 ≤ C.s i ∧ C.s i ≤ 8 := by
  have := h.2.1 i hi
  simp [okP, inB] at this
  omega
theorem NumOk.W {C : Cfg} (h : NumOk C) {i : Nat} (hi : i < C.nW) : 0 ≤ C.wp i ∧ C.wp i < C.nP ∧ 1 ≤ C.wt i ∧ C.wt i ≤ 255 := by
  have := h.2.2.1 i hi
  simp [okW, inB] at this
  omega
theorem NumOk.C {C : Cfg} (h : NumOk C) {i : Nat} (hi : i < C.nC) : (0 ≤ C.cf i ∧ C.cf i < C.nP) ∧ (0 ≤ C.ct i ∧ C.ct i < C.nP) ∧ C.cf i ≠ C.ct i ∧ (1 ≤ C.cc i ∧ C.cc i ≤ 8) ∧ (1 ≤ C.cw i ∧ C.cw i ≤ 8) := by
  have := h.2.2.2.2 i hi
  simp [okC, inB] at this
  omega
theorem NumOk.N {C : Cfg} (h : NumOk C) : 1 ≤ C.nP ∧ C.nP ≤ 8 ∧ 1 ≤ C.nW ∧ C.nW ≤ 32 ∧ C.nC ≤ 16 := by
  have := h.1
  simp [okN, inB] at this
  omega
/-- how many words a channel takes -/
theorem words_bd {a b : Int} (h1 : 1 ≤ a ∧ a ≤ 8) (h2 : 1 ≤ b ∧ b ≤ 8) : 2 ≤ a * (b + 1) ∧ a * (b + 1) ≤ 72 := by
  have e1 : a * (b + 1) ≤ 8 * (b + 1) := Int.mul_le_mul_of_nonneg_right h1.2 (by omega)
  have e2 : 1 * (b + 1) ≤ a * (b + 1) := Int.mul_le_mul_of_nonneg_right h1.1 (by omega)
  omega
theorem NumOk.fP_bd {C : Cfg} (h : NumOk C) {i : Nat} (hi : i < C.nP) : 5 ≤ fP C i ∧ fP C i ≤ 259 := by
  have := h.P hi
  unfold fP
  omega
theorem NumOk.fC_bd {C : Cfg} (h : NumOk C) {i : Nat} (hi : i < C.nC) : 1 ≤ fC C i ∧ fC C i ≤ 3 := by
  have := h.C hi
  have := words_bd this.2.2.2.1 this.2.2.2.2
  unfold fC
  omega
theorem sumF_bd {f : Nat → Int} {n : Nat} {b : Int} (h : ∀ i, i < n → 0 ≤ f i ∧ f i ≤ b) : ∀ k, k ≤ n → 0 ≤ sumF f k ∧ sumF f k ≤ k * b
  | 0, _ => by simp [sumF]
  | k + 1, hk => by
    have := sumF_bd h k (by omega)
    have := h k (by omega)
    simp only [sumF]
    push_cast
    rw [Int.add_mul, Int.one_mul]
    omega
theorem NumOk.sumP {C : Cfg} (h : NumOk C) {k : Nat} (hk : k ≤ C.nP) : 0 ≤ sumF (fP C) k ∧ sumF (fP C) k ≤ 3000 := by
  have h1 := sumF_bd (f := fP C) (n := C.nP) (b := 259) (fun i hi => by have := h.fP_bd hi; omega) k hk
  have h2 := h.N
  omega
theorem NumOk.sumC {C : Cfg} (h : NumOk C) {k : Nat} (hk : k ≤ C.nC) : 0 ≤ sumF (fC C) k ∧ sumF (fC C) k ≤ 3000 := by
  have h1 := sumF_bd (f := fC C) (n := C.nC) (b := 3) (fun i hi => by have := h.fC_bd hi; omega) k hk
  have h2 := h.N
  omega
open Classical in
noncomputable def frE (C : Cfg) : Int := if NumOk C then sumF (fP C) C.nP + sumF (fC C) C.nC else 0
open Classical in
/-- what Check answers -/
noncomputable def ckE (C : Cfg) : Int := if NumOk C then if 1024 < frE C then 3 else 0 else 2
theorem frE_ok {C : Cfg} (h : NumOk C) : frE C = sumF (fP C) C.nP + sumF (fC C) C.nC := if_pos h
theorem frE_bad {C : Cfg} (h : ¬ NumOk C) : frE C = 0 := if_neg h
/-- may a configuration be? -/
def CkOk (C : Cfg) : Prop := NumOk C ∧ frE C ≤ 1024
theorem ckE_ok {C : Cfg} (h : CkOk C) : ckE C = 0 := by
  unfold ckE
  rw [if_pos h.1, if_neg (by have := h.2; omega)]
theorem ckE_full {C : Cfg} (h : NumOk C) (hf : 1024 < frE C) : ckE C = 3 := by
  unfold ckE
  rw [if_pos h, if_pos hf]
theorem ckE_bad {C : Cfg} (h : ¬ NumOk C) : ckE C = 2 := if_neg h
theorem ckE_cases (C : Cfg) : (CkOk C ∧ ckE C = 0) ∨ (¬ CkOk C ∧ (ckE C = 2 ∨ ckE C = 3)) := by
  by_cases h : NumOk C
  · by_cases hf : 1024 < frE C
    · exact .inr ⟨fun h => by have := h.2; omega, .inr (ckE_full h hf)⟩
    · exact .inl ⟨⟨h, by omega⟩, ckE_ok ⟨h, by omega⟩⟩
  · exact .inr ⟨fun h' => h h'.1, .inl (ckE_bad h)⟩
theorem by3_any (n : Int) (w : World) (h0 : 0 ≤ n) (h1 : n ≤ 100000) :
    Calls Try.prog 43 #[.int .i64 n, .int .i64 3] w fun e w' => e = .returned (.int .i64 ((n + 2) / 3)) ∧ w' = w := by
  have hr : (n + 2) / 3 = (n + 3 - 1) / 3 := by omega
  rw [hr]
  clear hr
  go_enter Try.func43, Try.ntmps43
  go_wp2
  go_ret
  exact ⟨rfl, rfl⟩
theorem by32_any (n : Int) (w : World) (h0 : 0 ≤ n) (h1 : n ≤ 100000) :
    Calls Try.prog 43 #[.int .i64 n, .int .i64 32] w fun e w' => e = .returned (.int .i64 ((n + 31) / 32)) ∧ w' = w := by
  have hr : (n + 31) / 32 = (n + 32 - 1) / 32 := by omega
  rw [hr]
  clear hr
  go_enter Try.func43, Try.ntmps43
  go_wp2
  go_ret
  exact ⟨rfl, rfl⟩
theorem cfgV_one (C : Cfg) (l : Lay) : True := trivial
set_option maxHeartbeats 4000000 in
theorem frames_any (C : Cfg) (l : Lay) (w : World) (h : IsC w C l) (hN : C.nP ≤ 1000000 ∧ C.nW ≤ 1000000 ∧ C.nC ≤ 1000000) :
    Calls Try.prog 19 #[.agg (cfgV C l)] w fun e w' => e = .returned (.int .i64 (frE C)) ∧ Below w.heap.size w w' := by
  have hnum := fun (W : World) (h : IsC W C l) => numbers_any C l W h hN
  obtain ⟨z1, z2, z3⟩ := hN
  have HI := Lib.hid h
  clear h
  obtain ⟨pP, cP, pW, cW, pC, cC⟩ := l
  unfold cfgV at *
  simp only at *
  by_cases hok : NumOk C
  case neg =>
    rw [frE_bad hok]
    rw [numE_bad hok] at hnum
    have HNum := Lib.hid hnum
    clear hnum hok
    go_enter Try.func19, Try.ntmps19
    go_wp2_with fail
    refine (HNum.out _ (by exact HI.out.below (by go_grown))).mono ?_; rintro e w1 ⟨rfl, hb⟩
    go_wp2
    go_ret
    exact ⟨rfl, bstep (by go_grown) hb⟩
  case pos =>
  rw [frE_ok hok]
  rw [numE_ok hok] at hnum
  have HNum := Lib.hid hnum
  have HOK := Lib.hid hok
  have hNN := hok.N
  clear hnum hok
  go_enter Try.func19, Try.ntmps19
  go_wp2_with fail
  refine (HNum.out _ (by exact HI.out.below (by go_grown))).mono ?_; rintro e w1 ⟨rfl, hb⟩
  have hB1 : Below w.heap.size w w1 := bstep (by go_grown) hb
  have hv0 : w1.heap[w.heap.size]? = some (.cells #[.slice pP C.nP cP, .slice pW C.nW cW, .slice pC C.nC cC] 26 (0, 0)) := bk_below (bk_new w _) hb
  have hI1 := HI.out.below hB1
  have HI1 := Lib.hid hI1
  have HB1 := Lib.hid hB1
  have hvl := bk_lt hv0
  have c0 : w1.cell? ⟨w.heap.size, 0, none⟩ = some (.slice pP C.nP cP) := (bk_cell hv0 0).trans rfl
  have HC2 := Lib.hid (show w1.cell? ⟨w.heap.size, 2, none⟩ = some (.slice pC C.nC cC) from (bk_cell hv0 2).trans rfl)
  clear hb hB1 hv0 hI1
  go_wp2_with fail
  go_loopw [3, 14] (fun v n W' => ∃ k : Nat, k ≤ C.nP ∧ n = .int .i64 k ∧ v = .int .i64 (sumF (fP C) k) ∧ Below w1.heap.size w1 W') (fun _ n _ => C.nP - (intOf n).toNat)
  case atStart => exact ⟨0, by omega, rfl, rfl, Below.refl _ _⟩
  case round =>
    obtain ⟨k, hk, rfl, rfl, hb⟩ := hrel
    have HBk := Lib.hid hb
    have hz := hb.size
    have hsum := HOK.out.sumP hk
    clear hb
    by_cases hkn : k < C.nP
    · have hkn' : (k : Int) < C.nP := by omega
      have hbd := HOK.out.P hkn
      rcases HI1.out.P with h0 | ⟨b, o, e5, hc⟩
      · omega
      simp only at e5
      subst e5
      have x0 := keepc HBk.out (hc k hkn).1
      have x1 := keepc HBk.out (hc k hkn).2
      have HST := Lib.hid (show sumF (fP C) (k + 1) = sumF (fP C) k + fP C k from rfl)
      have HFP := Lib.hid (show fP C k = C.q k + (C.s k + 2) / 3 from rfl)
      generalize sumF (fP C) k = sm at *
      generalize C.q k = qk at *
      generalize C.s k = sk at *
      have s1 : IntKind.i64.wrap (qk + (sk + 2) / 3) = qk + (sk + 2) / 3 := IntWalk.i64_in _ (by omega)
      have s2 : IntKind.i64.wrap (sm + (qk + (sk + 2) / 3)) = sm + (qk + (sk + 2) / 3) := IntWalk.i64_in _ (by omega)
      clear hc
      go_wp2_with fail
      go_quiet ((go_at_call 43; exact Calls.quiet_of_same (by3_any _ _ (by omega) (by omega))))
      go_wp2
      refine ⟨⟨k + 1, by omega, by go_num, by rw [HST.out, HFP.out], bdrewN (HBk.out.alloc HBk.out.size _) _⟩, by simp [intOf]; omega⟩
    · have hkn2 : k = C.nP := by omega
      subst hkn2
      obtain ⟨wo, rfl⟩ : ∃ wo : World, wo = wr := ⟨_, rfl⟩
      have c2 := keepc HBk.out HC2.out
      have hI2 := HI1.out.below HBk.out
      have HI2 := Lib.hid hI2
      obtain ⟨sp, hsp⟩ : ∃ sp, sumF (fP C) C.nP = sp := ⟨_, rfl⟩
      rw [hsp] at hsum
      rw [hsp]
      have HSP := Lib.hid hsp
      clear hI2 hsp c0
      go_wp2_with fail
      go_loopw [3, 30] (fun v n W' => ∃ k : Nat, k ≤ C.nC ∧ n = .int .i64 k ∧ v = .int .i64 (sp + sumF (fC C) k) ∧ Below wo.heap.size wo W') (fun _ n _ => C.nC - (intOf n).toNat)
      case atStart => exact ⟨0, by omega, rfl, by simp [sumF], Below.refl _ _⟩
      case round =>
        obtain ⟨k, hk, rfl, rfl, hb⟩ := hrel
        have HBm := Lib.hid hb
        have hz2 := hb.size
        have hsumc := HOK.out.sumC hk
        clear hb
        by_cases hkn : k < C.nC
        · have hkn' : (k : Int) < C.nC := by omega
          have hbd := HOK.out.C hkn
          have hwd := words_bd hbd.2.2.2.1 hbd.2.2.2.2
          rcases HI2.out.C with h0 | ⟨b, o, e5, hc⟩
          · omega
          simp only at e5
          subst e5
          have x0 := keepc HBm.out (hc k hkn).1
          have x1 := keepc HBm.out (hc k hkn).2.1
          have x2 := keepc HBm.out (hc k hkn).2.2.1
          have x3 := keepc HBm.out (hc k hkn).2.2.2
          have HST := Lib.hid (show sumF (fC C) (k + 1) = sumF (fC C) k + fC C k from rfl)
          have HFC := Lib.hid (show fC C k = (C.cc k * (C.cw k + 1) + 31) / 32 from rfl)
          generalize sumF (fC C) k = sm at *
          generalize C.cc k = ck at *
          generalize C.cw k = wk at *
          have s0 : IntKind.i64.wrap (wk + 1) = wk + 1 := IntWalk.i64_in _ (by omega)
          obtain ⟨pr, hpr⟩ : ∃ pr, ck * (wk + 1) = pr := ⟨_, rfl⟩
          rw [hpr] at hwd
          have s1 : IntKind.i64.wrap (ck * (wk + 1)) = pr := by rw [hpr]; exact IntWalk.i64_in _ (by omega)
          have s2 : IntKind.i64.wrap (sp + sm + (pr + 31) / 32) = sp + sm + (pr + 31) / 32 := IntWalk.i64_in _ (by omega)
          have HPR := Lib.hid hpr
          clear hc hpr
          go_wp2_with fail
          refine (by32_any pr _ (by omega) (by omega)).mono ?_; rintro e w4 ⟨rfl, rfl⟩
          go_wp2
          refine ⟨⟨k + 1, by omega, by go_num, by rw [HST.out, HFC.out, HPR.out, Int.add_assoc], HBm.out.alloc HBm.out.size _⟩, by simp [intOf]; omega⟩
        · have hkn2 : k = C.nC := by omega
          subst hkn2
          go_wp2
          go_ret
          exact ⟨by rw [← HSP.out]; rfl, HB1.out.trans ((HBk.out.mono (by omega)).trans (HBm.out.mono (by omega)))⟩
noncomputable def ckB (C : Cfg) : Int := ckE C
set_option maxHeartbeats 1000000 in
theorem check_any (C : Cfg) (l : Lay) (w : World) (h : IsC w C l) (hN : C.nP ≤ 1000000 ∧ C.nW ≤ 1000000 ∧ C.nC ≤ 1000000) :
    Calls Try.prog 18 #[.agg (cfgV C l)] w fun e w' => e = .returned (.int .i64 (ckE C)) ∧ Below w.heap.size w w' := by
  have hnum := fun (W : World) (h : IsC W C l) => numbers_any C l W h hN
  have hfr := fun (W : World) (h : IsC W C l) => frames_any C l W h hN
  have HI := Lib.hid h
  clear h hN
  obtain ⟨pP, cP, pW, cW, pC, cC⟩ := l
  unfold cfgV at *
  simp only at *
  have HF := Lib.hid hfr
  by_cases hok : NumOk C
  case neg =>
    rw [ckE_bad hok]
    rw [numE_bad hok] at hnum
    have HNum := Lib.hid hnum
    clear hnum hok hfr
    go_enter Try.func18, Try.ntmps18
    go_wp2_with fail
    refine (HNum.out _ (by exact HI.out.below (by go_grown))).mono ?_; rintro e w1 ⟨rfl, hb⟩
    go_wp2
    go_ret
    exact ⟨rfl, bstep (by go_grown) hb⟩
  case pos =>
  rw [numE_ok hok] at hnum
  have HNum := Lib.hid hnum
  by_cases hf : 1024 < frE C
  all_goals
    first | rw [ckE_full hok hf] | rw [ckE_ok ⟨hok, by omega⟩]
    clear hnum hok hfr
    generalize frE C = fr at *
    go_enter Try.func18, Try.ntmps18
    go_wp2_with fail
    refine (HNum.out _ (by exact HI.out.below (by go_grown))).mono ?_; rintro e w1 ⟨rfl, hb⟩
    have hB1 : Below w.heap.size w w1 := bstep (by go_grown) hb
    have hv0 : w1.heap[w.heap.size]? = some (.cells #[.slice pP C.nP cP, .slice pW C.nW cW, .slice pC C.nC cC] 26 (0, 0)) := bk_below (bk_new w _) hb
    have HI1 := Lib.hid (HI.out.below hB1)
    have HB1 := Lib.hid hB1
    have c0 : w1.cell? ⟨w.heap.size, 0, none⟩ = some (.slice pP C.nP cP) := (bk_cell hv0 0).trans rfl
    have c1 : w1.cell? ⟨w.heap.size, 1, none⟩ = some (.slice pW C.nW cW) := (bk_cell hv0 1).trans rfl
    have c2 : w1.cell? ⟨w.heap.size, 2, none⟩ = some (.slice pC C.nC cC) := (bk_cell hv0 2).trans rfl
    clear hb hB1 hv0
    go_wp2_with fail
    refine (HF.out _ (by exact HI1.out)).mono ?_; rintro e w2 ⟨rfl, hb2⟩
    go_wp2
    go_ret
    exact ⟨rfl, bstep HB1.out hb2⟩
end Go.Proofs.Ytofkgceenppdbaa
