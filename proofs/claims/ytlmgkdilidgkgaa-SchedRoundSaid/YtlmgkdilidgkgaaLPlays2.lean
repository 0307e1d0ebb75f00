/- The law SchedPlays. -/
import Derived.Test.YtlmgkdilidgkgaaLPlays
namespace Go.Proofs.Ytlmgkdilidgkgaa
open Go.RowKit
set_option linter.unusedVariables false
set_option linter.unusedSimpArgs false
theorem turn_st {C : Cfg} (h : CkOk C) (t : Nat) : turnW C (t : Int) = stA C t ∧ turnP C (t : Int) = C.wp (stA C t) := by
  have hm := majN_eq h.1
  have e : ((t : Int) % majT C).toNat = t % majN C := by
    rw [← hm]
    have : (t : Int) % (majN C : Int) = ((t % majN C : Nat) : Int) := by push_cast; rfl
    rw [this, Int.toNat_natCast]
  unfold turnW turnP
  rw [if_pos h, if_pos h, e]
  exact ⟨rfl, rfl⟩
structure InQ (C : Cfg) (ly : Lay) (n : Nat) (w V : World) : Prop where
  v : InV C ly n w V
theorem InQ.below {C : Cfg} {ly : Lay} {n : Nat} {w V V' : World} (h : InQ C ly n w V) (hb : Below V.heap.size V V') : InQ C ly n w V' := ⟨h.v.below hb⟩
set_option maxRecDepth 20000 in
set_option maxHeartbeats 8000000 in
theorem SchedPlays_any (C : Cfg) (ly : Lay) (n : Int) (w : World) (hI : IsC w C ly) :
    Calls Try.prog 3 #[.agg (cfgV C ly), .int .i64 n] w fun e w' => e = .returned (.bool true) ∧ Below w.heap.size w w' := by
  have HI := Lib.hid (show InV C ly w.heap.size w (w.alloc (.cells (cfgV C ly) 26)) from ⟨bk_new _ _, hI.below ((Below.refl _ _).alloc (Nat.le_refl _) _), (Below.refl _ _).alloc (Nat.le_refl _) _⟩)
  have HI0 := Lib.hid hI
  by_cases hL : Long C
  · have HL := Lib.hid fun (W : World) => long_yes C ly W hL
    clear hL hI
    obtain ⟨pP, cP, pW, cW, pC, cC⟩ := ly
    unfold cfgV at *
    simp only at *
    go_enter Try.func3, Try.ntmps3
    go_wp2_with fail
    refine (HL.out _).mono ?_; rintro e w1 ⟨rfl, hb1⟩
    have HB1 := Lib.hid (bstep (a := w) (by go_grown) hb1)
    clear hb1
    go_wp2_with fail
    refine (awake_any _).mono ?_; rintro e w2 ⟨rfl, hb2⟩
    go_wp2
    go_ret
    exact ⟨rfl, bstep HB1.out hb2⟩
  have hN := not_long hL
  have HL := Lib.hid fun (W : World) => long_no C ly W hL
  by_cases hn : (3000 : Int) < n
  · clear hL hI hN
    obtain ⟨pP, cP, pW, cW, pC, cC⟩ := ly
    unfold cfgV at *
    simp only at *
    go_enter Try.func3, Try.ntmps3
    go_wp2_with fail
    refine (HL.out _).mono ?_; rintro e w1 ⟨rfl, hb1⟩
    have HB1 := Lib.hid (bstep (a := w) (by go_grown) hb1)
    clear hb1
    go_wp2_with fail
    refine (awake_any _).mono ?_; rintro e w2 ⟨rfl, hb2⟩
    go_wp2
    go_ret
    exact ⟨rfl, bstep HB1.out hb2⟩
  have HRC := Lib.hid fun (W : World) (h : InV C ly w.heap.size w W) => rcheck_any C ly W h.2.1 hN
  by_cases hok : CkOk C
  case neg =>
    have HSB := Lib.hid fun (W : World) (h : InV C ly w.heap.size w W) => snew_bad C ly W h.2.1 hN hok
    have ka := ckE_ne hok
    have ka2 := ckE_bne hok
    clear hok hL hI hN
    generalize ckE C = er at *
    obtain ⟨pP, cP, pW, cW, pC, cC⟩ := ly
    unfold cfgV at *
    simp only at *
    go_enter Try.func3, Try.ntmps3
    go_wp2_with fail
    refine (HL.out _).mono ?_; rintro e w1 ⟨rfl, hb1⟩
    have HI1 := Lib.hid (HI.out.below hb1)
    obtain ⟨c0, c1, c2⟩ := HI1.out.cells
    clear hb1
    go_wp2_with fail
    clear c0 c1 c2
    refine (HSB.out _ (by exact HI1.out)).mono ?_; rintro e w2 ⟨rfl, hb2⟩
    have HI2 := Lib.hid (HI1.out.below hb2)
    obtain ⟨c0, c1, c2⟩ := HI2.out.cells
    clear hb2
    go_wp2_with fail
    clear c0 c1 c2
    refine (HRC.out _ (by exact HI2.out)).mono ?_; rintro e w3 ⟨rfl, hb3⟩
    have HI3 := Lib.hid (HI2.out.below hb3)
    clear hb3
    go_wp2_with fail
    go_loopw [7] (fun iv W' => iv = .int .i64 0 ∧ InV C ⟨pP, cP, pW, cW, pC, cC⟩ w.heap.size w W') (fun iv _ => 1)
    case atStart => exact ⟨rfl, HI3.out⟩
    case round =>
      obtain ⟨rfl, hv⟩ := hrel
      have HV := Lib.hid hv
      clear hv
      by_cases h0 : (0 : Int) ≤ n
      · have h1 : decide ((0 : Int) ≤ n) = true := by simpa using h0
        go_wp2_with fail
        refine (awake_any _).mono ?_; rintro e w2 ⟨rfl, hb2⟩
        go_wp2
        go_ret
        exact ⟨rfl, bstep HV.out.2.2 hb2⟩
      · have h1 : decide ((0 : Int) ≤ n) = false := by simpa using h0
        go_wp2_with fail
        refine (awake_any _).mono ?_; rintro e w2 ⟨rfl, hb2⟩
        go_wp2
        go_ret
        exact ⟨rfl, bstep HV.out.2.2 hb2⟩
  case pos =>
  have HSN := Lib.hid fun (W : World) (h : InV C ly w.heap.size w W) => snew_ok C ly W h.2.1 hN hok
  have htn := fun (t : Nat) (W : World) (h : InV C ly w.heap.size w W) (ht : t ≤ 100000) => rturn_any C ly (t : Int) W h.2.1 hN (by omega) (by omega)
  simp only [(turn_st hok _).1, (turn_st hok _).2, ckE_ok hok] at htn
  have HTN := Lib.hid htn
  have HLF := Lib.hid fun (t : Nat) (W : World) (h : InV C ly w.heap.size w W) (ht : t ≤ 100000) => rleft_any C ly t W h.2.1 hok.1 (by omega)
  rw [ckE_ok hok] at HRC
  have HPA := Lib.hid fun (g gl cap t : Nat) (W : World) (h : AtT W g gl cap C t) => part_at g gl cap C t W hok.1 h
  have HWA := Lib.hid fun (g gl cap t : Nat) (W : World) (h : AtT W g gl cap C t) => window_at g gl cap C t W hok.1 h
  have HTA := Lib.hid fun (g gl cap t : Nat) (W : World) (h : AtT W g gl cap C t) => ticks_at g gl cap C t W hok.1 h
  have HLA := Lib.hid fun (g gl cap t : Nat) (W : World) (h : AtT W g gl cap C t) => left_at g gl cap C t W hok.1 h
  have HTK := Lib.hid fun (g gl cap t : Nat) (W : World) (h : AtT W g gl cap C t) (ht : t ≤ 100000) => tick_at g gl cap C t W hok.1 h (by omega)
  clear hok hL hI hN htn
  obtain ⟨pP, cP, pW, cW, pC, cC⟩ := ly
  unfold cfgV at *
  simp only at *
  go_enter Try.func3, Try.ntmps3
  go_wp2_with fail
  refine (HL.out _).mono ?_; rintro e w1 ⟨rfl, hb1⟩
  have HI1 := Lib.hid (HI.out.below hb1)
  obtain ⟨c0, c1, c2⟩ := HI1.out.cells
  clear hb1
  go_wp2_with fail
  clear c0 c1 c2
  refine (HSN.out _ (by exact HI1.out)).mono ?_; rintro e w2 ⟨g, gl, cap, rfl, hs2, hg, hgl, hb2⟩
  have HI2 := Lib.hid (HI1.out.below hb2)
  have HS2 := Lib.hid hs2
  have hz1 := HI1.out.2.2.size
  have hgw : w.heap.size ≤ g := by omega
  have hngl := bk_lt HI1.out.1
  have hng : w.heap.size ≠ g := by omega
  obtain ⟨c0, c1, c2⟩ := HI2.out.cells
  clear hb2 hs2
  go_wp2_with fail
  clear c0 c1 c2
  refine (HRC.out _ (by exact HI2.out)).mono ?_; rintro e w3 ⟨rfl, hb3⟩
  have HI3 := Lib.hid (HI2.out.below hb3)
  have HS3 := Lib.hid (HS2.out.below hb3)
  clear hb3
  go_wp2_with fail
  go_loopw [7] (fun iv W' => ∃ j : Nat, iv = .int .i64 j ∧ (j : Int) ≤ 3001 ∧ AtT W' g gl cap C j ∧ InV C ⟨pP, cP, pW, cW, pC, cC⟩ w.heap.size w W') (fun iv _ => 3002 - (intOf iv).toNat)
  case atStart => exact ⟨0, rfl, by omega, HS3.out, HI3.out⟩
  case round =>
    obtain ⟨j, rfl, hj, hs, hv⟩ := hrel
    have HS := Lib.hid hs
    have HV := Lib.hid hv
    clear hs hv
    by_cases hjn : (j : Int) ≤ n
    · have hjn2 : decide ((j : Int) ≤ n) = true := by simpa using hjn
      have q1 : IntKind.u64.wrap (j : Int) = j := by rw [IntKind.wrap_u64]; omega
      have q2 : IntKind.i64.wrap ((j : Int) + 1) = (j : Int) + 1 := IntWalk.i64_in _ (by omega)
      have q3 : IntKind.u64.wrap ((j : Int) + 1) = (j : Int) + 1 := by rw [IntKind.wrap_u64]; omega
      have ht1 := fun (W : World) (h : InV C ⟨pP, cP, pW, cW, pC, cC⟩ w.heap.size w W) => HTN.out j W h (by omega)
      have ht2 := fun (W : World) (h : InV C ⟨pP, cP, pW, cW, pC, cC⟩ w.heap.size w W) => HTN.out (j + 1) W h (by omega)
      have htk := fun (W : World) (h : AtT W g gl cap C j) => HTK.out g gl cap j W h (by omega)
      have hpa := fun (W : World) (h : AtT W g gl cap C j) => HPA.out g gl cap j W h
      have hwa := fun (W : World) (h : AtT W g gl cap C j) => HWA.out g gl cap j W h
      have hta := fun (W : World) (h : AtT W g gl cap C j) => HTA.out g gl cap j W h
      have hla := fun (W : World) (h : AtT W g gl cap C j) => HLA.out g gl cap j W h
      have hlf := fun (W : World) (h : InV C ⟨pP, cP, pW, cW, pC, cC⟩ w.heap.size w W) => HLF.out j W h (by omega)
      rw [show ((j + 1 : Nat) : Int) = (j : Int) + 1 by push_cast; rfl] at ht2
      have H1 := Lib.hid ht1
      have H2 := Lib.hid ht2
      have H3 := Lib.hid htk
      have H4 := Lib.hid hpa
      have H5 := Lib.hid hwa
      have H6 := Lib.hid hta
      have H7 := Lib.hid hla
      have H8 := Lib.hid hlf
      clear ht1 ht2 htk hpa hwa hta hla hlf
      obtain ⟨c0, c1, c2⟩ := HV.out.cells
      generalize stA C j = a0 at *
      generalize stA C (j + 1) = a1 at *
      generalize C.wp a0 = p0 at *
      generalize C.wp a1 = p1 at *
      generalize C.wt a0 - stG C j = lf at *
      go_wp2_with fail
      clear c0 c1 c2
      refine (H1.out _ (by exact HV.out)).mono ?_; rintro e w4 ⟨rfl, hb4⟩
      have HV4 := Lib.hid (HV.out.below hb4)
      have HS4 := Lib.hid (HS.out.below hb4)
      obtain ⟨c0, c1, c2⟩ := HV4.out.cells
      clear hb4
      go_wp2_with fail
      clear c0 c1 c2
      refine (H2.out _ (by exact HV4.out)).mono ?_; rintro e w5 ⟨rfl, hb5⟩
      have HV5 := Lib.hid (HV4.out.below hb5)
      have HS5 := Lib.hid (HS4.out.below hb5)
      obtain ⟨c0, c1, c2⟩ := HV5.out.cells
      have hs5 := HS5.out
      have hv5 : InQ C ⟨pP, cP, pW, cW, pC, cC⟩ w.heap.size w w5 := ⟨HV5.out⟩
      clear hb5
      go_wp2_with fail
      go_region_held3 (fun W' => W'.cell? ⟨w.heap.size, 0, none⟩ = some (.slice pP C.nP cP) ∧ W'.cell? ⟨w.heap.size, 1, none⟩ = some (.slice pW C.nW cW) ∧ W'.cell? ⟨w.heap.size, 2, none⟩ = some (.slice pC C.nC cC) ∧ AtT W' g gl cap C j ∧ InQ C ⟨pP, cP, pW, cW, pC, cC⟩ w.heap.size w W')
        (first | assumption | ((repeat' apply And.intro) <;> first | assumption | (simp only [*]; done) | exact AtT.below (by first | assumption | (simp only [*]; done)) (bdrew (Below.refl _ _)) | exact InQ.below (by first | assumption | (simp only [*]; done)) (bdrew (Below.refl _ _)) | exact keepc hb (by first | assumption | (simp only [*]; done)) | exact AtT.below (by first | assumption | (simp only [*]; done)) hb | exact InQ.below (by first | assumption | (simp only [*]; done)) hb))
        (first
          | (go_at_call 12; refine (H4.out _ (by first | assumption | (simp only [*]; done))).mono ?_; rintro e w6 ⟨rfl, hb⟩)
          | (go_at_call 13; refine (H5.out _ (by first | assumption | (simp only [*]; done))).mono ?_; rintro e w6 ⟨rfl, hb⟩)
          | (go_at_call 14; refine (H6.out _ (by first | assumption | (simp only [*]; done))).mono ?_; rintro e w6 ⟨rfl, hb⟩)
          | (go_at_call 15; refine (H7.out _ (by first | assumption | (simp only [*]; done))).mono ?_; rintro e w6 ⟨rfl, hb⟩)
          | (go_at_call 16; refine (H8.out _ (InQ.v (by first | assumption | (simp only [*]; done)))).mono ?_; rintro e w6 ⟨rfl, hb⟩))
      have hs6 : AtT w6 g gl cap C j := by first | assumption | (simp only [*]; done)
      have hv6 : InQ C ⟨pP, cP, pW, cW, pC, cC⟩ w.heap.size w w6 := by first | assumption | (simp only [*]; done)
      have HS6 := Lib.hid hs6
      have HV6 := Lib.hid hv6.v
      clear hs6 hv6 hs5 hv5 c0 c1 c2
      go_wp2_with fail
      refine (H3.out _ HS6.out).mono ?_; rintro e w7 ⟨rfl, hs7, hk7⟩
      have HS7 := Lib.hid hs7
      have HV7 := Lib.hid (HV6.out.kept HI0.out hk7 hng hgw)
      clear hs7 hk7
      go_wp2
      exact ⟨⟨j + 1, by go_num, by omega, HS7.out, HV7.out⟩, by simp [intOf]; omega⟩
    · have hjn2 : decide ((j : Int) ≤ n) = false := by simpa using hjn
      go_wp2_with fail
      refine (awake_any _).mono ?_; rintro e w2 ⟨rfl, hb2⟩
      go_wp2
      go_ret
      exact ⟨rfl, bstep HV.out.2.2 hb2⟩
end Go.Proofs.Ytlmgkdilidgkgaa
