/- The law PlanApart. -/
import Derived.Test.YtjbblocfdfjfmaaLRound
namespace Go.Proofs.Ytjbblocfdfjfmaa
open Go.RowKit
set_option linter.unusedVariables false
set_option linter.unusedSimpArgs false
set_option maxRecDepth 100000 in
set_option maxHeartbeats 8000000 in
theorem PlanApart_any (C : Cfg) (ly : Lay) (w : World) (hI : IsC w C ly) :
    Calls Try.prog 6 #[.agg (cfgV C ly)] w fun e w' => e = .returned (.bool true) ∧ Below w.heap.size w w' := by
  by_cases hL : Long C
  · have HL := Lib.hid fun (W : World) => long_yes C ly W hL
    clear hL
    obtain ⟨pP, cP, pW, cW, pC, cC⟩ := ly
    unfold cfgV at *
    simp only at *
    go_enter Try.func6, Try.ntmps6
    go_wp2_with fail
    refine (HL.out _).mono ?_; rintro e w1 ⟨rfl, hb1⟩
    have HB1 := Lib.hid (bstep (a := w) (by go_grown) hb1)
    clear hb1
    go_wp2_with fail
    refine (awake_any _).mono ?_; rintro e w2 ⟨rfl, hb2⟩
    go_wp2
    go_ret
    exact ⟨rfl, bstep HB1.out hb2⟩
  have hN := not_long hL
  have HL := Lib.hid fun (W : World) => long_no C ly W hL
  have HK := Lib.hid fun (W : World) (h : InV C ly w.heap.size w W) => check_any C ly W h.2.1 hN
  have HF := Lib.hid fun (W : World) (h : InV C ly w.heap.size w W) => frames_any C ly W h.2.1 hN
  have HO := Lib.hid fun (p : Int) (W : World) (h : InV C ly w.heap.size w W) => own_any C ly p W h.2.1 hN
  have HT := Lib.hid fun (p : Int) (W : World) (h : InV C ly w.heap.size w W) => traps_any C ly p W h.2.1 hN
  have HC := Lib.hid fun (p : Int) (W : World) (h : InV C ly w.heap.size w W) => chan_any C ly p W h.2.1 hN
  have HI := Lib.hid (show InV C ly w.heap.size w (w.alloc (.cells (cfgV C ly) 26)) from ⟨bk_new _ _, hI.below ((Below.refl _ _).alloc (Nat.le_refl _) _), (Below.refl _ _).alloc (Nat.le_refl _) _⟩)
  clear hL hN hI
  obtain ⟨pP, cP, pW, cW, pC, cC⟩ := ly
  unfold cfgV at *
  simp only at *
  by_cases hok : CkOk C
  case neg =>
    have ka := ckE_ne hok
    have ka2 := ckE_bne hok
    clear hok HF HO HT HC
    generalize ckE C = er at *
    go_enter Try.func6, Try.ntmps6
    go_wp2_with fail
    refine (HL.out _).mono ?_; rintro e w1 ⟨rfl, hb1⟩
    have HI1 := Lib.hid (HI.out.below hb1)
    obtain ⟨c0, c1, c2⟩ := HI1.out.cells
    clear hb1
    go_wp2_with fail
    clear c0 c1 c2
    refine (HK.out _ (by exact HI1.out)).mono ?_; rintro e w2 ⟨rfl, hb2⟩
    have HI2 := Lib.hid (HI1.out.below hb2)
    clear hb2
    go_wp2_with fail
    refine (awake_any _).mono ?_; rintro e w8 ⟨rfl, hb8⟩
    go_wp2
    go_ret
    exact ⟨rfl, bstep HI2.out.2.2 hb8⟩
  case pos =>
  have HOI := Lib.hid fun (i : Nat) (hi : i < C.nP) => own_in (C := C) hok hi
  have HCI := Lib.hid fun (i : Nat) (hi : i < C.nC) => chan_in (C := C) hok hi
  have HOK := Lib.hid hok.1
  have hNN := hok.1.N
  rw [ckE_ok hok] at HK
  rw [frE_ok hok.1] at HF
  clear hok
  go_enter Try.func6, Try.ntmps6
  go_wp2_with fail
  refine (HL.out _).mono ?_; rintro e w1 ⟨rfl, hb1⟩
  have HI1 := Lib.hid (HI.out.below hb1)
  obtain ⟨c0, c1, c2⟩ := HI1.out.cells
  clear hb1
  go_wp2_with fail
  clear c0 c1 c2
  refine (HK.out _ (by exact HI1.out)).mono ?_; rintro e w2 ⟨rfl, hb2⟩
  have HI2 := Lib.hid (HI1.out.below hb2)
  clear hb2
  go_wp2_with fail
  go_loopw [3, 4] (fun nv iv W' => ∃ i : Nat, i ≤ C.nP ∧ iv = .int .i64 i ∧ nv = .int .i64 (sumF (fP C) i) ∧ InV C ⟨pP, cP, pW, cW, pC, cC⟩ w.heap.size w W') (fun _ iv _ => C.nP - (intOf iv).toNat)
  case atStart => exact ⟨0, by omega, rfl, rfl, HI2.out⟩
  case round =>
    obtain ⟨i, hi, rfl, rfl, hv⟩ := hrel
    have HIi := Lib.hid hv
    obtain ⟨c0, c1, c2⟩ := hv.cells
    clear hv
    have hsb := HOK.out.sumP (k := i) hi
    by_cases hin : i < C.nP
    · have hin' : (i : Int) < C.nP := by omega
      have hi0 : (0 : Int) ≤ (i : Int) := by omega
      have hbd := HOK.out.P hin
      have HST := Lib.hid (show sumF (fP C) (i + 1) = sumF (fP C) i + (C.q i + (C.s i + 2) / 3) from rfl)
      obtain ⟨e1, e2, e3, e4, e5⟩ := HOI.out i hin
      have ho := fun (W : World) => HO.out (i : Int) W
      have ht := fun (W : World) => HT.out (i : Int) W
      rw [e1, e2, e3] at ho
      rw [e3, e4, e5] at ht
      have HO2 := Lib.hid ho
      have HT2 := Lib.hid ht
      clear e1 e2 e3 e4 e5 ho ht
      have hy : C.s i ≤ (C.s i + 2) / 3 * 3 ∧ ((C.s i + 2) / 3 - 1) * 3 < C.s i ∧ 1 ≤ (C.s i + 2) / 3 ∧ (C.s i + 2) / 3 ≤ 3 := by omega
      rcases HIi.out.2.1.P with h00 | ⟨b, o, e6, hc⟩
      · omega
      simp only at e6
      subst e6
      have x0 := (hc i hin).1
      have x1 := (hc i hin).2
      clear hc
      have HX0 := Lib.hid x0
      have HX1 := Lib.hid x1
      clear x0 x1
      generalize sumF (fP C) i = sm at *
      generalize C.q i = qi at *
      generalize (C.s i + 2) / 3 = y at *
      generalize C.s i = si at *
      have s1 : IntKind.i64.wrap (sm + qi) = sm + qi := IntWalk.i64_in _ (by omega)
      have s2 : IntKind.i64.wrap (y * 3) = y * 3 := IntWalk.i64_in _ (by omega)
      have s3 : IntKind.i64.wrap (y - 1) = y - 1 := IntWalk.i64_in _ (by omega)
      have s4 : IntKind.i64.wrap ((y - 1) * 3) = (y - 1) * 3 := IntWalk.i64_in _ (by omega)
      have s5 : IntKind.i64.wrap (sm + qi + y) = sm + qi + y := IntWalk.i64_in _ (by omega)
      have k1 : ¬ y * 3 < si := by omega
      have k2 : ¬ si ≤ (y - 1) * 3 := by omega
      go_wp2_with fail
      clear c0 c1 c2
      refine (HO2.out _ (by exact HIi.out)).mono ?_; rintro e w3 ⟨rfl, hb3⟩
      have HI3 := Lib.hid (HIi.out.below hb3)
      have HX3 := Lib.hid (keepc hb3 HX0.out)
      have HX4 := Lib.hid (keepc hb3 HX1.out)
      obtain ⟨c0, c1, c2⟩ := HI3.out.cells
      clear hb3
      go_wp2_with fail
      clear c0 c1 c2
      refine (HT2.out _ (by exact HI3.out)).mono ?_; rintro e w4 ⟨rfl, hb4⟩
      have HI4 := Lib.hid (HI3.out.below hb4)
      have x0 := keepc hb4 HX3.out
      have x1 := keepc hb4 HX4.out
      obtain ⟨c0, c1, c2⟩ := HI4.out.cells
      clear hb4
      go_wp2
      refine ⟨⟨i + 1, by omega, by go_num, by rw [HST.out]; congr 1; omega, HI4.out⟩, by simp [intOf]; omega⟩
    · have hin' : ¬ (i : Int) < C.nP := by omega
      obtain rfl : i = C.nP := by omega
      obtain ⟨sp, hsp⟩ : ∃ sp, sumF (fP C) C.nP = sp := ⟨_, rfl⟩
      rw [hsp] at hsb HF
      simp only [hsp] at HCI
      rw [hsp]
      clear hsp
      obtain ⟨wo, rfl⟩ : ∃ wo : World, wo = wr := ⟨_, rfl⟩
      go_wp2_with fail
      clear c0 c1 c2
      go_loopw [3, 11] (fun nv iv W' => ∃ i : Nat, i ≤ C.nC ∧ iv = .int .i64 i ∧ nv = .int .i64 (sp + sumF (fC C) i) ∧ InV C ⟨pP, cP, pW, cW, pC, cC⟩ w.heap.size w W') (fun _ iv _ => C.nC - (intOf iv).toNat)
      case atStart => exact ⟨0, by omega, rfl, by simp [sumF], HIi.out⟩
      case round =>
        obtain ⟨i, hi, rfl, rfl, hv⟩ := hrel
        have HIj := Lib.hid hv
        obtain ⟨c0, c1, c2⟩ := hv.cells
        clear hv
        have hsc := HOK.out.sumC (k := i) hi
        by_cases hin : i < C.nC
        · have hin' : (i : Int) < C.nC := by omega
          have hi0 : (0 : Int) ≤ (i : Int) := by omega
          have hbd := HOK.out.C hin
          have hwd := words_bd hbd.2.2.2.1 hbd.2.2.2.2
          have HST := Lib.hid (show sumF (fC C) (i + 1) = sumF (fC C) i + fC C i from rfl)
          obtain ⟨e1, e2, e3⟩ := HCI.out i hin
          have hq := fun (W : World) => HC.out (i : Int) W
          rw [e1, e2, e3] at hq
          have HC2 := Lib.hid hq
          have hfc : fC C i = (C.cc i * (C.cw i + 1) + 31) / 32 := rfl
          clear e1 e2 e3 hq
          rcases HIj.out.2.1.C with h00 | ⟨b, o, e6, hc⟩
          · omega
          simp only at e6
          subst e6
          have x2 := (hc i hin).2.2.1
          have x3 := (hc i hin).2.2.2
          clear hc
          have HX2 := Lib.hid x2
          have HX3 := Lib.hid x3
          clear x2 x3
          generalize sumF (fC C) i = sm at *
          generalize fC C i = fi at *
          generalize C.cc i = ck at *
          generalize C.cw i = wk at *
          have s0 : IntKind.i64.wrap (wk + 1) = wk + 1 := IntWalk.i64_in _ (by omega)
          obtain ⟨pr, hpr⟩ : ∃ pr, ck * (wk + 1) = pr := ⟨_, rfl⟩
          rw [hpr] at hwd hfc
          have s1 : IntKind.i64.wrap (ck * (wk + 1)) = pr := by rw [hpr]; exact IntWalk.i64_in _ (by omega)
          have s2 : IntKind.i64.wrap (fi * 32) = fi * 32 := IntWalk.i64_in _ (by omega)
          have s3 : IntKind.i64.wrap (fi - 1) = fi - 1 := IntWalk.i64_in _ (by omega)
          have s4 : IntKind.i64.wrap ((fi - 1) * 32) = (fi - 1) * 32 := IntWalk.i64_in _ (by omega)
          have s5 : IntKind.i64.wrap (sp + sm + fi) = sp + sm + fi := IntWalk.i64_in _ (by omega)
          have k1 : ¬ fi * 32 < pr := by omega
          have k2 : ¬ pr ≤ (fi - 1) * 32 := by omega
          clear hpr hfc
          go_wp2_with fail
          clear c0 c1 c2
          refine (HC2.out _ (by exact HIj.out)).mono ?_; rintro e w4 ⟨rfl, hb4⟩
          have HI4 := Lib.hid (HIj.out.below hb4)
          have x2 := keepc hb4 HX2.out
          have x3 := keepc hb4 HX3.out
          obtain ⟨c0, c1, c2⟩ := HI4.out.cells
          clear hb4
          go_wp2_with fail
          go_quiet (fail)
          go_wp2
          refine ⟨⟨i + 1, by omega, by go_num, by rw [HST.out]; congr 1; omega, HI4.out.below (bdrewN (Below.refl _ _) _)⟩, by simp [intOf]; omega⟩
        · have hin' : ¬ (i : Int) < C.nC := by omega
          obtain rfl : i = C.nC := by omega
          go_wp2_with fail
          clear c0 c1 c2
          refine (HF.out _ (by exact HIj.out)).mono ?_; rintro e w6 ⟨rfl, hb6⟩
          have HI6 := Lib.hid (HIj.out.below hb6)
          go_wp2_with fail
          refine (awake_any _).mono ?_; rintro e w8 ⟨rfl, hb8⟩
          go_wp2
          go_ret
          exact ⟨rfl, bstep HI6.out.2.2 hb8⟩
end Go.Proofs.Ytjbblocfdfjfmaa
