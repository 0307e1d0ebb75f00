/- The reference's Frames and Check of a configuration. -/
import Derived.Test.YtofkgceenppdbaaRConf
namespace Go.Proofs.Ytofkgceenppdbaa
open Go.RowKit
set_option linter.unusedVariables false
set_option linter.unusedSimpArgs false
theorem up3_any (n : Int) (w : World) (h0 : 0 ≤ n) (h1 : n ≤ 100000) :
    Calls Try.prog 47 #[.int .i64 n, .int .i64 3] w fun e w' => e = .returned (.int .i64 ((n + 2) / 3)) ∧ w' = w := by
  have s1 : IntKind.i64.wrap (n / 3 + 1) = n / 3 + 1 := IntWalk.i64_in _ (by omega)
  by_cases hr : 0 < n % 3
  · have e : (n + 2) / 3 = n / 3 + 1 := by omega
    rw [e]
    clear e
    go_enter Try.func47, Try.ntmps47
    go_wp2
    go_ret
    exact ⟨rfl, rfl⟩
  · have e : (n + 2) / 3 = n / 3 := by omega
    rw [e]
    clear e
    go_enter Try.func47, Try.ntmps47
    go_wp2
    go_ret
    exact ⟨rfl, rfl⟩
theorem up32_any (n : Int) (w : World) (h0 : 0 ≤ n) (h1 : n ≤ 100000) :
    Calls Try.prog 47 #[.int .i64 n, .int .i64 32] w fun e w' => e = .returned (.int .i64 ((n + 31) / 32)) ∧ w' = w := by
  have s1 : IntKind.i64.wrap (n / 32 + 1) = n / 32 + 1 := IntWalk.i64_in _ (by omega)
  by_cases hr : 0 < n % 32
  · have e : (n + 31) / 32 = n / 32 + 1 := by omega
    rw [e]
    clear e
    go_enter Try.func47, Try.ntmps47
    go_wp2
    go_ret
    exact ⟨rfl, rfl⟩
  · have e : (n + 31) / 32 = n / 32 := by omega
    rw [e]
    clear e
    go_enter Try.func47, Try.ntmps47
    go_wp2
    go_ret
    exact ⟨rfl, rfl⟩
set_option maxHeartbeats 4000000 in
theorem rframes_any (C : Cfg) (l : Lay) (w : World) (h : IsC w C l) (hN : C.nP ≤ 1000000 ∧ C.nW ≤ 1000000 ∧ C.nC ≤ 1000000) :
    Calls Try.prog 22 #[.agg (cfgV C l)] w fun e w' => e = .returned (.int .i64 (frE C)) ∧ Below w.heap.size w w' := by
  have hnum := fun (W : World) (h : IsC W C l) => rnumbers_any C l W h hN
  obtain ⟨z1, z2, z3⟩ := hN
  have HI := Lib.hid h
  clear h
  obtain ⟨pP, cP, pW, cW, pC, cC⟩ := l
  unfold cfgV at *
  simp only at *
  by_cases hok : NumOk C
  case neg =>
    rw [frE_bad hok]
    rw [numB_bad hok] at hnum
    have HNum := Lib.hid hnum
    clear hnum hok
    go_enter Try.func22, Try.ntmps22
    go_wp2_with fail
    refine (HNum.out _ (by exact HI.out.below (by go_grown))).mono ?_; rintro e w1 ⟨rfl, hb⟩
    go_wp2
    go_ret
    exact ⟨rfl, bstep (by go_grown) hb⟩
  case pos =>
  rw [frE_ok hok]
  rw [numB_ok hok] at hnum
  have HNum := Lib.hid hnum
  have HOK := Lib.hid hok
  have hNN := hok.N
  clear hnum hok
  go_enter Try.func22, Try.ntmps22
  go_wp2_with fail
  refine (HNum.out _ (by exact HI.out.below (by go_grown))).mono ?_; rintro e w1 ⟨rfl, hb⟩
  have hB1 : Below w.heap.size w w1 := bstep (by go_grown) hb
  have hv0 : w1.heap[w.heap.size]? = some (.cells #[.slice pP C.nP cP, .slice pW C.nW cW, .slice pC C.nC cC] 26 (0, 0)) := bk_below (bk_new w _) hb
  have hI1 := HI.out.below hB1
  have HI1 := Lib.hid hI1
  have HB1 := Lib.hid hB1
  have hvl := bk_lt hv0
  have HC0 := Lib.hid (show w1.cell? ⟨w.heap.size, 0, none⟩ = some (.slice pP C.nP cP) from (bk_cell hv0 0).trans rfl)
  have HC2 := Lib.hid (show w1.cell? ⟨w.heap.size, 2, none⟩ = some (.slice pC C.nC cC) from (bk_cell hv0 2).trans rfl)
  clear hb hB1 hv0 hI1
  go_wp2_with fail
  go_loopw [3, 4] (fun v n W' => ∃ k : Nat, k ≤ C.nP ∧ n = .int .i64 k ∧ v = .int .i64 (sumF (fP C) k) ∧ Below w1.heap.size w1 W') (fun _ n _ => C.nP - (intOf n).toNat)
  case atStart => exact ⟨0, by omega, rfl, rfl, Below.refl _ _⟩
  case round =>
    obtain ⟨k, hk, rfl, rfl, hb⟩ := hrel
    have HBk := Lib.hid hb
    have hz := hb.size
    have hsum := HOK.out.sumP hk
    have c0 := keepc hb HC0.out
    clear hb
    by_cases hkn : k < C.nP
    · have hkn' : (k : Int) < C.nP := by omega
      have hk0 : (0 : Int) ≤ (k : Int) := by omega
      have hbd := HOK.out.P hkn
      rcases HI1.out.P with h0 | ⟨b, o, e5, hc⟩
      · omega
      simp only at e5
      subst e5
      have x0 := keepc HBk.out (hc k hkn).1
      have x1 := keepc HBk.out (hc k hkn).2
      have HST := Lib.hid (show sumF (fP C) (k + 1) = sumF (fP C) k + fP C k from rfl)
      have HFP := Lib.hid (show fP C k = C.q k + (C.s k + 2) / 3 from rfl)
      generalize sumF (fP C) k = sm at *
      generalize C.q k = qk at *
      generalize C.s k = sk at *
      have s1 : IntKind.i64.wrap (sm + qk) = sm + qk := IntWalk.i64_in _ (by omega)
      have s2 : IntKind.i64.wrap (sm + qk + (sk + 2) / 3) = sm + qk + (sk + 2) / 3 := IntWalk.i64_in _ (by omega)
      clear hc
      go_wp2_with fail
      go_quiet ((go_at_call 47; exact Calls.quiet_of_same (up3_any _ _ (by omega) (by omega))))
      go_wp2
      refine ⟨⟨k + 1, by omega, by go_num, by rw [HST.out, HFP.out, Int.add_assoc], bdrewN HBk.out _⟩, by simp [intOf]; omega⟩
    · have hkn' : ¬ (k : Int) < C.nP := by omega
      have hkn2 : k = C.nP := by omega
      subst hkn2
      obtain ⟨wo, rfl⟩ : ∃ wo : World, wo = wr := ⟨_, rfl⟩
      have HC2' := Lib.hid (keepc HBk.out HC2.out)
      have hI2 := HI1.out.below HBk.out
      have HI2 := Lib.hid hI2
      obtain ⟨sp, hsp⟩ : ∃ sp, sumF (fP C) C.nP = sp := ⟨_, rfl⟩
      rw [hsp] at hsum
      rw [hsp]
      have HSP := Lib.hid hsp
      clear hI2 hsp
      go_wp2_with fail
      clear c0
      go_loopw [3, 5] (fun v n W' => ∃ k : Nat, k ≤ C.nC ∧ n = .int .i64 k ∧ v = .int .i64 (sp + sumF (fC C) k) ∧ Below wo.heap.size wo W') (fun _ n _ => C.nC - (intOf n).toNat)
      case atStart => exact ⟨0, by omega, rfl, by simp [sumF], Below.refl _ _⟩
      case round =>
        obtain ⟨k, hk, rfl, rfl, hb⟩ := hrel
        have HBm := Lib.hid hb
        have hz2 := hb.size
        have hsumc := HOK.out.sumC hk
        have c2 := keepc hb HC2'.out
        clear hb
        by_cases hkn : k < C.nC
        · have hkn' : (k : Int) < C.nC := by omega
          have hk0 : (0 : Int) ≤ (k : Int) := by omega
          have hbd := HOK.out.C hkn
          have hwd := words_bd hbd.2.2.2.1 hbd.2.2.2.2
          rcases HI2.out.C with h0 | ⟨b, o, e5, hc⟩
          · omega
          simp only at e5
          subst e5
          have x2 := keepc HBm.out (hc k hkn).2.2.1
          have x3 := keepc HBm.out (hc k hkn).2.2.2
          have HST := Lib.hid (show sumF (fC C) (k + 1) = sumF (fC C) k + fC C k from rfl)
          have HFC := Lib.hid (show fC C k = (C.cc k * (C.cw k + 1) + 31) / 32 from rfl)
          generalize sumF (fC C) k = sm at *
          generalize C.cc k = ck at *
          generalize C.cw k = wk at *
          have s0 : IntKind.i64.wrap (wk + 1) = wk + 1 := IntWalk.i64_in _ (by omega)
          obtain ⟨pr, hpr⟩ : ∃ pr, ck * (wk + 1) = pr := ⟨_, rfl⟩
          rw [hpr] at hwd
          have s1 : IntKind.i64.wrap (ck * (wk + 1)) = pr := by rw [hpr]; exact IntWalk.i64_in _ (by omega)
          have s2 : IntKind.i64.wrap (sp + sm + (pr + 31) / 32) = sp + sm + (pr + 31) / 32 := IntWalk.i64_in _ (by omega)
          have HPR := Lib.hid hpr
          clear hc hpr
          go_wp2_with fail
          go_quiet ((go_at_call 47; exact Calls.quiet_of_same (up32_any pr _ (by omega) (by omega))))
          go_wp2
          refine ⟨⟨k + 1, by omega, by go_num, by rw [HST.out, HFC.out, HPR.out, Int.add_assoc], bdrewN HBm.out _⟩, by simp [intOf]; omega⟩
        · have hkn' : ¬ (k : Int) < C.nC := by omega
          have hkn2 : k = C.nC := by omega
          subst hkn2
          go_wp2
          go_ret
          exact ⟨by rw [← HSP.out]; rfl, HB1.out.trans ((HBk.out.mono (by omega)).trans (HBm.out.mono (by omega)))⟩
set_option maxHeartbeats 1000000 in
theorem rcheck_any (C : Cfg) (l : Lay) (w : World) (h : IsC w C l) (hN : C.nP ≤ 1000000 ∧ C.nW ≤ 1000000 ∧ C.nC ≤ 1000000) :
    Calls Try.prog 9 #[.agg (cfgV C l)] w fun e w' => e = .returned (.int .i64 (ckE C)) ∧ Below w.heap.size w w' := by
  have hnum := fun (W : World) (h : IsC W C l) => rnumbers_any C l W h hN
  have hfr := fun (W : World) (h : IsC W C l) => rframes_any C l W h hN
  have HI := Lib.hid h
  clear h hN
  obtain ⟨pP, cP, pW, cW, pC, cC⟩ := l
  unfold cfgV at *
  simp only at *
  have HF := Lib.hid hfr
  by_cases hok : NumOk C
  case neg =>
    rw [ckE_bad hok]
    rw [numB_bad hok] at hnum
    have HNum := Lib.hid hnum
    clear hnum hok hfr
    go_enter Try.func9, Try.ntmps9
    go_wp2_with fail
    refine (HNum.out _ (by exact HI.out.below (by go_grown))).mono ?_; rintro e w1 ⟨rfl, hb⟩
    go_wp2
    go_ret
    exact ⟨rfl, bstep (by go_grown) hb⟩
  case pos =>
  rw [numB_ok hok] at hnum
  have HNum := Lib.hid hnum
  by_cases hf : 1024 < frE C
  all_goals
    first | rw [ckE_full hok hf] | rw [ckE_ok ⟨hok, by omega⟩]
    clear hnum hok hfr
    generalize frE C = fr at *
    go_enter Try.func9, Try.ntmps9
    go_wp2_with fail
    refine (HNum.out _ (by exact HI.out.below (by go_grown))).mono ?_; rintro e w1 ⟨rfl, hb⟩
    have hB1 : Below w.heap.size w w1 := bstep (by go_grown) hb
    have hv0 : w1.heap[w.heap.size]? = some (.cells #[.slice pP C.nP cP, .slice pW C.nW cW, .slice pC C.nC cC] 26 (0, 0)) := bk_below (bk_new w _) hb
    have HI1 := Lib.hid (HI.out.below hB1)
    have HB1 := Lib.hid hB1
    have c0 : w1.cell? ⟨w.heap.size, 0, none⟩ = some (.slice pP C.nP cP) := (bk_cell hv0 0).trans rfl
    have c1 : w1.cell? ⟨w.heap.size, 1, none⟩ = some (.slice pW C.nW cW) := (bk_cell hv0 1).trans rfl
    have c2 : w1.cell? ⟨w.heap.size, 2, none⟩ = some (.slice pC C.nC cC) := (bk_cell hv0 2).trans rfl
    clear hb hB1 hv0
    go_wp2_with fail
    refine (HF.out _ (by exact HI1.out)).mono ?_; rintro e w2 ⟨rfl, hb2⟩
    go_wp2
    go_ret
    exact ⟨rfl, bstep HB1.out hb2⟩
end Go.Proofs.Ytofkgceenppdbaa
