/- The law PlanRound. -/
import Derived.Test.YtjbblocfdfjfmaaLSame
namespace Go.Proofs.Ytjbblocfdfjfmaa
open Go.RowKit
set_option linter.unusedVariables false
set_option linter.unusedSimpArgs false
theorem turn_later {C : Cfg} (t : Int) : turnW C (t + majT C) = turnW C t ∧ turnP C (t + majT C) = turnP C t := by
  unfold turnW turnP
  rw [Int.add_emod_right]
  exact ⟨rfl, rfl⟩
theorem turn_at {C : Cfg} (h : CkOk C) {i : Nat} {j : Int} (hi : i < C.nW) (h0 : 0 ≤ j) (hj : j < C.wt i) : turnW C (sumF C.wt i + j) = i ∧ turnP C (sumF C.wt i + j) = C.wp i := by
  have ht := h.1.ticks
  have h1 := sumT_bd ht (n := i) (by omega)
  have h2 := sumT_mono ht (a := i + 1) (b := C.nW) (by omega) (Nat.le_refl _)
  have h3 : sumF C.wt (i + 1) = sumF C.wt i + C.wt i := rfl
  have h4 : (sumF C.wt i + j) % majT C = sumF C.wt i + j := Int.emod_eq_of_lt (by omega) (by unfold majT; omega)
  have h5 : winAt C (sumF C.wt i + j).toNat = i := winAt_of ht hi (by omega) (by omega)
  unfold turnW turnP
  rw [if_pos h, if_pos h, h4, h5]
  exact ⟨rfl, rfl⟩
set_option maxHeartbeats 8000000 in
theorem PlanRound_any (C : Cfg) (ly : Lay) (t : Int) (w : World) (hI : IsC w C ly) (h0 : 0 ≤ t) (h1 : t < 18446744073709551616) :
    Calls Try.prog 4 #[.agg (cfgV C ly), .int .u64 t] w fun e w' => e = .returned (.bool true) ∧ Below w.heap.size w w' := by
  by_cases hL : Long C
  · have HL := Lib.hid fun (W : World) => long_yes C ly W hL
    clear hL
    obtain ⟨pP, cP, pW, cW, pC, cC⟩ := ly
    unfold cfgV at *
    simp only at *
    go_enter Try.func4, Try.ntmps4
    go_wp2_with fail
    refine (HL.out _).mono ?_; rintro e w1 ⟨rfl, hb1⟩
    have HB1 := Lib.hid (bstep (a := w) (by go_grown) hb1)
    clear hb1
    go_wp2_with fail
    refine (awake_any _).mono ?_; rintro e w2 ⟨rfl, hb2⟩
    go_wp2
    go_ret
    exact ⟨rfl, bstep HB1.out hb2⟩
  have hN := not_long hL
  have HL := Lib.hid fun (W : World) => long_no C ly W hL
  have HK := Lib.hid fun (W : World) (h : InV C ly w.heap.size w W) => check_any C ly W h.2.1 hN
  have HM := Lib.hid fun (W : World) (h : InV C ly w.heap.size w W) => major_any C ly W h.2.1 hN
  have HT := Lib.hid fun (t : Int) (W : World) (h0 : 0 ≤ t) (h1 : t < 18446744073709551616) (h : InV C ly w.heap.size w W) => turn_any C ly t W h.2.1 hN h0 h1
  have HI := Lib.hid (show InV C ly w.heap.size w (w.alloc (.cells (cfgV C ly) 26)) from ⟨bk_new _ _, hI.below ((Below.refl _ _).alloc (Nat.le_refl _) _), (Below.refl _ _).alloc (Nat.le_refl _) _⟩)
  clear hL hN hI
  obtain ⟨pP, cP, pW, cW, pC, cC⟩ := ly
  unfold cfgV at *
  simp only at *
  by_cases hok : CkOk C
  case neg =>
    have ka := ckE_ne hok
    have ka2 := ckE_bne hok
    clear hok HM HT
    generalize ckE C = er at *
    go_enter Try.func4, Try.ntmps4
    go_wp2_with fail
    refine (HL.out _).mono ?_; rintro e w1 ⟨rfl, hb1⟩
    have HI1 := Lib.hid (HI.out.below hb1)
    obtain ⟨c0, c1, c2⟩ := HI1.out.cells
    clear hb1
    go_wp2_with fail
    clear c0 c1 c2
    refine (HK.out _ (by exact HI1.out)).mono ?_; rintro e w2 ⟨rfl, hb2⟩
    have HI2 := Lib.hid (HI1.out.below hb2)
    clear hb2
    go_wp2_with fail
    refine (awake_any _).mono ?_; rintro e w8 ⟨rfl, hb8⟩
    go_wp2
    go_ret
    exact ⟨rfl, bstep HI2.out.2.2 hb8⟩
  case pos =>
  have HTA := Lib.hid fun (i : Nat) (j : Int) => turn_at (C := C) (i := i) (j := j) hok
  have HTL := Lib.hid fun (t : Int) => turn_later (C := C) t
  have hmj := hok.1.maj
  have hmd : majT C = sumF C.wt C.nW := rfl
  have HTK := Lib.hid hok.1.ticks
  have hNN := hok.1.N
  rw [ckE_ok hok] at HK HM HT
  rw [majR_ok hok] at HM
  have HTC := Lib.hid hok.1.ticks
  clear hok
  obtain ⟨m, hm⟩ : ∃ m : Nat, majT C = (m : Int) := ⟨(majT C).toNat, by omega⟩
  rw [hm] at HM HTL hmj hmd
  clear hm
  have k0 : ¬ (m : Int) < 1 := by omega
  have s1 : IntKind.u64.wrap (m : Int) = m := by rw [IntKind.wrap_u64]; omega
  have s2 : IntKind.u64.wrap (t / 2 + (m : Int)) = t / 2 + m := by rw [IntKind.wrap_u64]; omega
  have s3 : IntKind.i64.wrap (m : Int) = m := IntWalk.i64_in _ (by omega)
  have HMD := Lib.hid hmd
  clear hmd
  go_enter Try.func4, Try.ntmps4
  go_wp2_with fail
  refine (HL.out _).mono ?_; rintro e w1 ⟨rfl, hb1⟩
  have HI1 := Lib.hid (HI.out.below hb1)
  obtain ⟨c0, c1, c2⟩ := HI1.out.cells
  clear hb1
  go_wp2_with fail
  clear c0 c1 c2
  refine (HK.out _ (by exact HI1.out)).mono ?_; rintro e w2 ⟨rfl, hb2⟩
  have HI2 := Lib.hid (HI1.out.below hb2)
  obtain ⟨c0, c1, c2⟩ := HI2.out.cells
  clear hb2
  go_wp2_with fail
  clear c0 c1 c2
  refine (HM.out _ (by exact HI2.out)).mono ?_; rintro e w3 ⟨rfl, hb3⟩
  have HI3 := Lib.hid (HI2.out.below hb3)
  obtain ⟨c0, c1, c2⟩ := HI3.out.cells
  clear hb3
  go_wp2_with fail
  clear c0 c1 c2
  refine (HT.out (t / 2) _ (by omega) (by omega) (by exact HI3.out)).mono ?_; rintro e w4 ⟨rfl, hb4⟩
  have HI4 := Lib.hid (HI3.out.below hb4)
  obtain ⟨c0, c1, c2⟩ := HI4.out.cells
  clear hb4
  go_wp2_with fail
  clear c0 c1 c2
  refine (HT.out (t / 2 + m) _ (by omega) (by omega) (by exact HI4.out)).mono ?_; rintro e w5 ⟨rfl, hb5⟩
  have HI5 := Lib.hid (HI4.out.below hb5)
  have HV5 := Lib.hid HI5.out.1
  clear hb5
  rw [(HTL.out _).1, (HTL.out _).2]
  go_wp2_with fail
  go_loopw [13, 14] (fun kv iv W' => ∃ i : Nat, i ≤ C.nW ∧ iv = .int .i64 i ∧ kv = .int .u64 (sumF C.wt i) ∧ InV C ⟨pP, cP, pW, cW, pC, cC⟩ w.heap.size w W') (fun _ iv _ => C.nW - (intOf iv).toNat)
  case atStart => exact ⟨0, by omega, rfl, rfl, HI5.out⟩
  case round =>
    obtain ⟨i, hi, rfl, rfl, hv⟩ := hrel
    have HIi := Lib.hid hv
    obtain ⟨c0, c1, c2⟩ := hv.cells
    have hvl := bk_lt hv.1
    clear hv
    have hsb := sumT_bd HTC.out (n := i) hi
    by_cases hin : i < C.nW
    · have hin' : (i : Int) < C.nW := by omega
      have hi0 : (0 : Int) ≤ (i : Int) := by omega
      have hbd := HTC.out i hin
      obtain ⟨tn, htn⟩ : ∃ tn : Nat, C.wt i = (tn : Int) := ⟨(C.wt i).toNat, by omega⟩
      have HST := Lib.hid (show sumF C.wt (i + 1) = sumF C.wt i + (tn : Int) by rw [← htn]; rfl)
      have hta : ∀ j : Nat, j < tn → turnW C (sumF C.wt i + (j : Int)) = i ∧ turnP C (sumF C.wt i + (j : Int)) = C.wp i := fun j hj => HTA.out i j hin (by omega) (by omega)
      have HTJ := Lib.hid hta
      have HTN := Lib.hid htn
      rw [htn] at hbd
      clear hta htn
      obtain ⟨wo, rfl⟩ : ∃ wo : World, wo = wr := ⟨_, rfl⟩
      generalize sumF C.wt i = sm at *
      go_wp2_with fail
      clear c0 c1 c2
      go_loopw [13, 15] (fun kv jv W' => ∃ j : Nat, j ≤ tn ∧ jv = .int .i64 j ∧ kv = .int .u64 (sm + (j : Int)) ∧ InV C ⟨pP, cP, pW, cW, pC, cC⟩ w.heap.size w W') (fun _ jv _ => tn - (intOf jv).toNat)
      case atStart => exact ⟨0, by omega, rfl, by simp, HIi.out⟩
      case round =>
        obtain ⟨j, hj, rfl, rfl, hv⟩ := hrel
        have HIj := Lib.hid hv
        obtain ⟨c0, c1, c2⟩ := hv.cells
        rcases hv.2.1.W with h00 | ⟨b, o, e5, hc⟩
        · omega
        simp only at e5
        subst e5
        have x0 := (hc i hin).1
        have x1 := (hc i hin).2
        rw [HTN.out] at x1
        clear hv hc
        by_cases hjn : j < tn
        · have hjn' : (j : Int) < tn := by omega
          have hjn3 : decide (j < tn) = true := by simp; omega
          have hq := fun (W : World) => HT.out (sm + (j : Int)) W (by omega) (by omega)
          rw [(HTJ.out j hjn).1, (HTJ.out j hjn).2] at hq
          have HQ := Lib.hid hq
          have s4 : IntKind.u64.wrap (sm + (j : Int) + 1) = sm + (j : Int) + 1 := by rw [IntKind.wrap_u64]; omega
          clear hq
          go_wp2_with fail
          clear c0 c1 c2
          refine (HQ.out _ (by exact HIj.out)).mono ?_; rintro e w6 ⟨rfl, hb6⟩
          have HIk := Lib.hid (HIj.out.below hb6)
          obtain ⟨c0, c1, c2⟩ := HIk.out.cells
          have y0 := keepc hb6 x0
          clear hb6 x0 x1
          go_wp2
          refine ⟨⟨j + 1, by omega, by go_num, by congr 1; push_cast; omega, HIk.out⟩, by simp [intOf]; omega⟩
        · have hjn' : ¬ (j : Int) < tn := by omega
          obtain rfl : j = tn := by omega
          have hjn3 : decide (j < j) = false := by simp
          go_wp2_with fail
          refine ⟨⟨i + 1, by omega, by go_num, by rw [HST.out], HIj.out⟩, by simp [intOf]; omega⟩
    · have hin' : ¬ (i : Int) < C.nW := by omega
      obtain rfl : i = C.nW := by omega
      rw [← HMD.out]
      go_wp2_with fail
      refine (awake_any _).mono ?_; rintro e w8 ⟨rfl, hb8⟩
      go_wp2
      go_ret
      exact ⟨rfl, bstep HIi.out.2.2 hb8⟩
end Go.Proofs.Ytjbblocfdfjfmaa
