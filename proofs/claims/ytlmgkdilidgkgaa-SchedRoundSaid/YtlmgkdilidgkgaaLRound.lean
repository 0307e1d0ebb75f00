/- The law SchedRound, within its guards. -/
import Derived.Test.YtlmgkdilidgkgaaLRoundO
namespace Go.Proofs.Ytlmgkdilidgkgaa
open Go.RowKit
set_option linter.unusedVariables false
set_option linter.unusedSimpArgs false
theorem left_facts {C : Cfg} (h : NumOk C) (t : Nat) : 1 ≤ C.wt (stA C t) - stG C t ∧ C.wt (stA C t) - stG C t ≤ 255 ∧ (1 < C.wt (stA C t) - stG C t → stA C (t + 1) = stA C t ∧ C.wt (stA C (t + 1)) - stG C (t + 1) = C.wt (stA C t) - stG C t - 1) := by
  have hs := st_spec h t
  have ht := h.ticks _ hs.1
  refine ⟨by omega, by omega, fun h1 => ?_⟩
  obtain ⟨e1, e2⟩ := st_in h (t := t) (by omega)
  exact ⟨e1, by rw [e1, e2]; omega⟩
set_option maxRecDepth 20000 in
set_option maxHeartbeats 16000000 in
theorem round_in (C : Cfg) (ly : Lay) (n : Int) (w : World) (hI : IsC w C ly) (hL : ¬ Long C) (hok : CkOk C) (hn : n ≤ 500) :
    Calls Try.prog 5 #[.agg (cfgV C ly), .int .i64 n] w fun e w' => e = .returned (.bool true) ∧ Below w.heap.size w w' := by
  have HI := Lib.hid (show InV C ly w.heap.size w (w.alloc (.cells (cfgV C ly) 26)) from ⟨bk_new _ _, hI.below ((Below.refl _ _).alloc (Nat.le_refl _) _), (Below.refl _ _).alloc (Nat.le_refl _) _⟩)
  have HI0 := Lib.hid hI
  have hN := not_long hL
  have HL := Lib.hid fun (W : World) => long_no C ly W hL
  have hck := fun (W : World) (h : InV C ly w.heap.size w W) => check_any C ly W h.2.1 hN
  rw [ckE_ok hok] at hck
  have HK := Lib.hid hck
  have HSN := Lib.hid fun (W : World) (h : InV C ly w.heap.size w W) => snew_ok C ly W h.2.1 hN hok
  have hmj := fun (W : World) (h : InV C ly w.heap.size w W) => major_any C ly W h.2.1 hN
  rw [ckE_ok hok, majR_ok hok, ← majN_eq hok.1] at hmj
  have HMJ := Lib.hid hmj
  have HPA := Lib.hid fun (g gl cap t : Nat) (W : World) (h : AtT W g gl cap C t) => part_at g gl cap C t W hok.1 h
  have HWA := Lib.hid fun (g gl cap t : Nat) (W : World) (h : AtT W g gl cap C t) => window_at g gl cap C t W hok.1 h
  have HLA := Lib.hid fun (g gl cap t : Nat) (W : World) (h : AtT W g gl cap C t) => left_at g gl cap C t W hok.1 h
  have HTK := Lib.hid fun (g gl cap t : Nat) (W : World) (h : AtT W g gl cap C t) (ht : t ≤ 100000) => tick_at g gl cap C t W hok.1 h (by omega)
  have HNUM := Lib.hid hok.1
  have hNN := hok.1.N
  have hMJ := hok.1.maj
  have hme := majN_eq hok.1
  have k2 : ¬ (500 : Int) < (n : Int) := by omega
  clear hok hL hI hN hck hmj
  obtain ⟨m, hm⟩ : ∃ m : Nat, m = majN C := ⟨_, rfl⟩
  rw [← hm] at hme HMJ
  have hm2 : 1 ≤ m ∧ m ≤ 8160 := by omega
  have HPER := Lib.hid fun t => stA_round C t
  have HCNT := Lib.hid fun t i => cnt_round HNUM.out t i
  rw [← hm] at HPER HCNT
  clear hm hme hMJ
  obtain ⟨pP, cP, pW, cW, pC, cC⟩ := ly
  unfold cfgV at *
  simp only at *
  go_enter Try.func5, Try.ntmps5
  go_wp2_with fail
  refine (HL.out _).mono ?_; rintro e w1 ⟨rfl, hb1⟩
  have HI1 := Lib.hid (HI.out.below hb1)
  obtain ⟨c0, c1, c2⟩ := HI1.out.cells
  clear hb1
  go_wp2_with fail
  clear c0 c1 c2
  refine (HK.out _ (by exact HI1.out)).mono ?_; rintro e w2 ⟨rfl, hb2⟩
  have HI2 := Lib.hid (HI1.out.below hb2)
  obtain ⟨c0, c1, c2⟩ := HI2.out.cells
  clear hb2
  go_wp2_with fail
  clear c0 c1 c2
  refine (HSN.out _ (by exact HI2.out)).mono ?_; rintro e w3 ⟨g, gl, cap, rfl, hs3, hg, hgl, hb3⟩
  have HI3 := Lib.hid (HI2.out.below hb3)
  have HS3 := Lib.hid hs3
  have hz2 := HI2.out.2.2.size
  have hgw : w.heap.size ≤ g := by omega
  have hngl := bk_lt HI2.out.1
  have hng : w.heap.size ≠ g := by omega
  obtain ⟨c0, c1, c2⟩ := HI3.out.cells
  clear hb3 hs3
  go_wp2_with fail
  clear c0 c1 c2
  refine (HMJ.out _ (by exact HI3.out)).mono ?_; rintro e w4 ⟨rfl, hb4⟩
  have HI4 := Lib.hid (HI3.out.below hb4)
  have HS4 := Lib.hid (HS3.out.below hb4)
  clear hb4
  go_wp2_with fail
  go_loopw [9] (fun iv W' => ∃ j : Nat, j ≤ n.toNat ∧ iv = .int .i64 j ∧ AtT W' g gl cap C j ∧ InV C ⟨pP, cP, pW, cW, pC, cC⟩ w.heap.size w W') (fun iv _ => n.toNat - (intOf iv).toNat)
  case atStart => exact ⟨0, by omega, rfl, HS4.out, HI4.out⟩
  case round =>
    obtain ⟨j, hj, rfl, hs, hv⟩ := hrel
    have HS := Lib.hid hs
    have HV := Lib.hid hv
    clear hs hv
    by_cases hjn : (j : Int) < n
    · have htk := HTK.out g gl cap j
      generalize C.wp (stA C j) = pa at *
      generalize C.wp (stA C (j + 1)) = pb at *
      have HT := Lib.hid htk
      clear htk
      go_wp2_with fail
      refine (HT.out _ HS.out (by omega)).mono ?_; rintro e w6 ⟨rfl, hs6, hk6⟩
      have HS6 := Lib.hid hs6
      have HV6 := Lib.hid (HV.out.kept HI0.out hk6 hng hgw)
      clear hs6 hk6
      go_wp2
      exact ⟨⟨j + 1, by omega, by go_num, HS6.out, HV6.out⟩, by simp [intOf]; omega⟩
    · obtain rfl : j = n.toNat := by omega
      have ht5 : n.toNat ≤ 500 := by omega
      generalize n.toNat = t at *
      have hpa := HPA.out g gl cap t
      have hwa := HWA.out g gl cap t
      have hla := HLA.out g gl cap t
      have hpe := HPA.out g gl cap (t + m)
      have hwe := HWA.out g gl cap (t + m)
      have hle := HLA.out g gl cap (t + m)
      rw [(HPER.out t).1] at hpe hwe hle
      rw [(HPER.out t).2] at hle
      generalize C.wt (stA C t) - stG C t = lf0 at *
      generalize C.wp (stA C t) = p0 at *
      generalize stA C t = a0 at *
      have P1 := Lib.hid hpa
      have P2 := Lib.hid hwa
      have P3 := Lib.hid hla
      have Q1 := Lib.hid hpe
      have Q2 := Lib.hid hwe
      have Q3 := Lib.hid hle
      clear hpa hwa hla hpe hwe hle
      go_wp2_with fail
      refine (P1.out _ HS.out).mono ?_; rintro e v1 ⟨rfl, hb1⟩
      have S1 := Lib.hid (HS.out.below hb1)
      have V1 := Lib.hid (HV.out.below hb1)
      clear hb1
      go_wp2_with fail
      refine (P2.out _ S1.out).mono ?_; rintro e v2 ⟨rfl, hb2⟩
      have S2 := Lib.hid (S1.out.below hb2)
      have V2 := Lib.hid (V1.out.below hb2)
      clear hb2
      go_wp2_with fail
      refine (P3.out _ S2.out).mono ?_; rintro e v3 ⟨rfl, hb3⟩
      have S3 := Lib.hid (S2.out.below hb3)
      have V3 := Lib.hid (V2.out.below hb3)
      obtain ⟨l1, l2, l3⟩ := S3.out.lts (by omega)
      clear hb3
      have hzh := zero_had
      go_upto_region 13 with fail
      refine wp_abs (fun V => V.heap[v3.heap.size]? = some (.cells (hc (cnt C t 0)) 48 (0, 0)) ∧ AtT V g gl cap C (t + 0) ∧ InV C ⟨pP, cP, pW, cW, pC, cC⟩ w.heap.size w V) ?_ ?_
      · exact ⟨bk_new _ _, S3.out.below ((Below.refl _ _).alloc (Nat.le_refl _) _), V3.out.below ((Below.refl _ _).alloc (Nat.le_refl _) _)⟩
      rintro V ⟨hv1, hv2, hv3⟩
      have HV1 := Lib.hid hv1
      have HV2 := Lib.hid hv2
      have HV3 := Lib.hid hv3
      have hwz : w.heap.size ≤ v3.heap.size := V3.out.2.2.size
      have hwn : w.heap.size ≠ v3.heap.size := by have := bk_lt V3.out.1; omega
      generalize v3.heap.size = hb at *
      clear hv1 hv2 hv3 hzh
      go_wp2_with fail
      go_loopw [14] (fun iv W' => ∃ i : Nat, i ≤ m ∧ iv = .int .i64 i ∧ W'.heap[hb]? = some (.cells (hc (cnt C t i)) 48 (0, 0)) ∧ AtT W' g gl cap C (t + i) ∧ InV C ⟨pP, cP, pW, cW, pC, cC⟩ w.heap.size w W') (fun iv _ => m - (intOf iv).toNat)
      case atStart => exact ⟨0, by omega, rfl, HV1.out, HV2.out, HV3.out⟩
      case round =>
        obtain ⟨i, hi, rfl, hh, hs, hv⟩ := hrel
        have HHB := Lib.hid hh
        have HSS := Lib.hid hs
        have HVV := Lib.hid hv
        clear hh hs hv
        by_cases him : i < m
        · have him' : (i : Int) < m := by omega
          have hpt := HNUM.out.part (st_spec HNUM.out (t + i)).1
          obtain ⟨q, hq⟩ : ∃ q : Nat, C.wp (stA C (t + i)) = q := ⟨(C.wp (stA C (t + i))).toNat, by omega⟩
          have hq8 : q < 8 := by omega
          have hq8' : (q : Int) < 8 := by omega
          have hcb := cnt_bd C t i q
          have hst := cnt_step C t i q hq
          have HST := Lib.hid hst
          have hlf := left_facts HNUM.out (t + i)
          have hpa := HPA.out g gl cap (t + i)
          have hwa := HWA.out g gl cap (t + i)
          have hla := HLA.out g gl cap (t + i)
          have htk := HTK.out g gl cap (t + i)
          have hpn := HPA.out g gl cap (t + i + 1)
          have hwn := HWA.out g gl cap (t + i + 1)
          have hln := HLA.out g gl cap (t + i + 1)
          have q3 : IntKind.i64.wrap (cnt C t i q + 1) = cnt C t i q + 1 := IntWalk.i64_in _ (by omega)
          rw [hq] at hpa htk
          obtain ⟨f1, f2, f3⟩ := hlf
          generalize C.wt (stA C (t + i)) - stG C (t + i) = lf at *
          generalize C.wt (stA C (t + i + 1)) - stG C (t + i + 1) = lg at *
          generalize C.wp (stA C (t + i + 1)) = p1 at *
          generalize stA C (t + i) = a1 at *
          generalize stA C (t + i + 1) = a2 at *
          have R1 := Lib.hid hpa
          have R2 := Lib.hid hwa
          have R3 := Lib.hid hla
          have R4 := Lib.hid htk
          have R5 := Lib.hid hpn
          clear hpa hwa hla htk hpn hst hpt hq
          go_wp2_with fail
          refine (R1.out _ HSS.out).mono ?_; rintro e u1 ⟨rfl, hb1⟩
          have S1 := Lib.hid (HSS.out.below hb1)
          have V1 := Lib.hid (HVV.out.below hb1)
          have B1 := Lib.hid (bk_below HHB.out hb1)
          clear hb1
          go_wp2_with fail
          refine (R2.out _ S1.out).mono ?_; rintro e u2 ⟨rfl, hb2⟩
          have S2 := Lib.hid (S1.out.below hb2)
          have V2 := Lib.hid (V1.out.below hb2)
          have B2 := Lib.hid (bk_below B1.out hb2)
          clear hb2
          go_wp2_with fail
          refine (R3.out _ S2.out).mono ?_; rintro e u3 ⟨rfl, hb3⟩
          have S3 := Lib.hid (S2.out.below hb3)
          have V3 := Lib.hid (V2.out.below hb3)
          have B3 := Lib.hid (bk_below B2.out hb3)
          clear hb3
          go_wp2_with fail
          refine (R4.out _ S3.out (by omega)).mono ?_; rintro e u4 ⟨rfl, hs4, hk4⟩
          have S4 := Lib.hid hs4
          have V4 := Lib.hid (V3.out.kept HI0.out hk4 hng hgw)
          have B4 := Lib.hid (hk4.blk B3.out (by omega))
          clear hs4 hk4
          go_wp2_with fail
          refine (R5.out _ S4.out).mono ?_; rintro e u5 ⟨rfl, hb5⟩
          have S5 := Lib.hid (S4.out.below hb5)
          have V5 := Lib.hid (V4.out.below hb5)
          have B5 := Lib.hid (bk_below B4.out hb5)
          clear hb5
          have hd1 : ¬ lf < 1 := by omega
          by_cases hl1 : 1 < lf
          · obtain ⟨f4, f5⟩ := f3 hl1
            rw [f4] at hwn
            rw [f5] at hln
            have q4 : IntKind.i64.wrap (lf - 1) = lf - 1 := IntWalk.i64_in _ (by omega)
            have R6 := Lib.hid hwn
            have R7 := Lib.hid hln
            clear hwn hln f3 f4 f5
            go_wp2_with fail
            refine (R6.out _ S5.out).mono ?_; rintro e u6 ⟨rfl, hb6⟩
            have S6 := Lib.hid (S5.out.below hb6)
            have V6 := Lib.hid (V5.out.below hb6)
            have B6 := Lib.hid (bk_below B5.out hb6)
            clear hb6
            go_wp2_with fail
            refine (R7.out _ S6.out).mono ?_; rintro e u7 ⟨rfl, hb7⟩
            have S7 := Lib.hid (S6.out.below hb7)
            have V7 := Lib.hid (V6.out.below hb7)
            have B7 := Lib.hid (bk_below B6.out hb7)
            clear hb7
            have y1 := (bk_cell B7.out q).trans (hc_at _ q hq8)
            have y2 : u7.frozen? ⟨hb, q, none⟩ = false := bk_frozen B7.out q
            go_wp2
            have hk : Kept hb u7 (u7.setCell ⟨hb, q, none⟩ (.int .i64 (cnt C t i q + 1))) := (Kept.refl _ _).setCell _ _
            have h9 := bk_set B7.out q (.int .i64 (cnt C t i q + 1))
            rw [hc_set _ q hq8, HST.out] at h9
            exact ⟨⟨i + 1, by omega, by go_num, h9, S7.out.kept hk (by omega) (by omega), V7.out.kept HI0.out hk (by omega) hwz⟩, by simp [intOf]; omega⟩
          · clear hwn hln f3
            have y1 := (bk_cell B5.out q).trans (hc_at _ q hq8)
            have y2 : u5.frozen? ⟨hb, q, none⟩ = false := bk_frozen B5.out q
            go_wp2
            have hk : Kept hb u5 (u5.setCell ⟨hb, q, none⟩ (.int .i64 (cnt C t i q + 1))) := (Kept.refl _ _).setCell _ _
            have h9 := bk_set B5.out q (.int .i64 (cnt C t i q + 1))
            rw [hc_set _ q hq8, HST.out] at h9
            exact ⟨⟨i + 1, by omega, by go_num, h9, S5.out.kept hk (by omega) (by omega), V5.out.kept HI0.out hk (by omega) hwz⟩, by simp [intOf]; omega⟩
        · obtain rfl : i = m := by omega
          obtain ⟨wq, rfl⟩ : ∃ wq : World, wq = wr := ⟨_, rfl⟩
          have hcn : cnt C t i = wantT C C.nW := funext fun j => HCNT.out t j
          have HHW : Hid (wq.heap[hb]? = some (.cells (hc (wantT C C.nW)) 48 (0, 0))) := Lib.hid (hcn ▸ HHB.out)
          clear hcn HHB
          rcases HVV.out.2.1.W with h0 | ⟨b, o, e5, hcw⟩
          · omega
          simp only at e5
          subst e5
          go_wp2_with fail
          go_loopw [20] (fun kv W' => ∃ k : Nat, k ≤ C.nP ∧ kv = .int .i64 k ∧ W'.heap[hb]? = some (.cells (hc (wantT C C.nW)) 48 (0, 0)) ∧ AtT W' g gl cap C (t + i) ∧ InV C ⟨pP, cP, some ⟨b, o, none⟩, cW, pC, cC⟩ w.heap.size w W') (fun kv _ => C.nP - (intOf kv).toNat)
          case atStart => exact ⟨0, by omega, rfl, HHW.out, HSS.out, HVV.out⟩
          case round =>
            obtain ⟨k, hk, rfl, hh, hs, hv⟩ := hrel
            obtain ⟨c0, c1, c2⟩ := hv.cells
            have HH3 := Lib.hid hh
            have HS3 := Lib.hid hs
            have HV3 := Lib.hid hv
            clear hh hs hv
            by_cases hkp : k < C.nP
            · have hkp' : (k : Int) < C.nP := by omega
              obtain ⟨wp, rfl⟩ : ∃ wp : World, wp = wr := ⟨_, rfl⟩
              have y1 := (bk_cell HH3.out k).trans (hc_at _ k (by omega))
              have hk8 : (k : Int) < 8 := by omega
              have hrow : ∀ x, x < C.nW → wp.cell? ⟨b, o + x * 2, none⟩ = some (.int .i64 (C.wp x)) ∧ wp.cell? ⟨b, o + x * 2 + 1, none⟩ = some (.int .i64 (C.wt x)) := by
                rcases HV3.out.2.1.W with h0 | ⟨b', o', e6, hcw'⟩
                · omega
                · simp only [Option.some.injEq, Addr.mk.injEq, and_true] at e6
                  obtain ⟨rfl, rfl⟩ := e6
                  exact hcw'
              have HROW := Lib.hid hrow
              clear hrow
              go_wp2_with fail
              go_loopw [21, 22] (fun sv xv W' => ∃ x : Nat, x ≤ C.nW ∧ xv = .int .i64 x ∧ sv = .int .i64 (wantT C x k) ∧ W' = wp) (fun _ xv _ => C.nW - (intOf xv).toNat)
              case atStart => exact ⟨0, by omega, rfl, rfl, rfl⟩
              case round =>
                obtain ⟨x, hx, rfl, rfl, rfl⟩ := hrel
                have hwb := wantT_bd HNUM.out k x hx
                by_cases hxn : x < C.nW
                · have hxn' : (x : Int) < C.nW := by omega
                  have z1 := (HROW.out x hxn).1
                  have z2 := (HROW.out x hxn).2
                  have hw2 := HNUM.out.ticks x hxn
                  by_cases he : C.wp x = (k : Int)
                  · have hstp : wantT C (x + 1) k = wantT C x k + C.wt x := by simp only [wantT, if_pos he]
                    go_wp2
                    exact ⟨⟨x + 1, by omega, by go_num, by rw [hstp], by first | trivial | rfl⟩, by simp [intOf]; omega⟩
                  · have hstp : wantT C (x + 1) k = wantT C x k := by simp only [wantT, if_neg he, Int.add_zero]
                    go_wp2
                    exact ⟨⟨x + 1, by omega, by go_num, by rw [hstp], by first | trivial | rfl⟩, by simp [intOf]; omega⟩
                · obtain rfl : x = C.nW := by omega
                  have hxn' : ¬ ((C.nW : Nat) : Int) < C.nW := by omega
                  go_wp2
                  exact ⟨⟨k + 1, by omega, by go_num, HH3.out, HS3.out, HV3.out⟩, by simp [intOf]; omega⟩
            · obtain rfl : k = C.nP := by omega
              have hkp' : ¬ ((C.nP : Nat) : Int) < C.nP := by omega
              go_wp2_with fail
              clear c0 c1 c2
              refine (Q1.out _ HS3.out).mono ?_; rintro e x1 ⟨rfl, hb1⟩
              have S1 := Lib.hid (HS3.out.below hb1)
              have D1 := Lib.hid (bstep HV3.out.2.2 hb1)
              clear hb1
              go_wp2_with fail
              refine (Q2.out _ S1.out).mono ?_; rintro e x2 ⟨rfl, hb2⟩
              have S2 := Lib.hid (S1.out.below hb2)
              have D2 := Lib.hid (bstep D1.out hb2)
              clear hb2
              go_wp2_with fail
              refine (Q3.out _ S2.out).mono ?_; rintro e x3 ⟨rfl, hb3⟩
              have D3 := Lib.hid (bstep D2.out hb3)
              clear hb3
              go_wp2_with fail
              refine (awake_any _).mono ?_; rintro e x4 ⟨rfl, hb4⟩
              go_wp2
              go_ret
              exact ⟨rfl, bstep D3.out hb4⟩
theorem SchedRound_any (C : Cfg) (ly : Lay) (n : Int) (w : World) (hI : IsC w C ly) :
    Calls Try.prog 5 #[.agg (cfgV C ly), .int .i64 n] w fun e w' => e = .returned (.bool true) ∧ Below w.heap.size w w' := by
  by_cases h : Long C ∨ ¬ CkOk C ∨ 500 < n
  · exact round_out C ly n w hI h
  · have h1 : ¬ Long C := fun h' => h (.inl h')
    have h2 : CkOk C := Classical.byContradiction fun h' => h (.inr (.inl h'))
    have h4 : ¬ 500 < n := fun h' => h (.inr (.inr h'))
    exact round_in C ly n w hI h1 h2 (by omega)
end Go.Proofs.Ytlmgkdilidgkgaa
