/- Helper text of this seat (ZBack): contracts of functions of the given program and of its references, and the laws' plain parts, each told by its theorem. Conditions: as each theorem names them. -/
import Derived.Test.YthgoighpmnecbaaZPut
namespace Go.Proofs.Ythgoighpmnecbaa
open Go.RowKit
set_option linter.unusedVariables false
set_option linter.unusedSimpArgs false
theorem new2 (w : World) (x y : Obj) : ((w.alloc x).alloc y).heap[w.heap.size + 1]? = some y := by
  have := bk_new (w.alloc x) y
  rwa [World.size_alloc] at this
/-- where too much comes in -/
theorem back_long (C D : Cfg) (l k : Lay) (s : ByteArray) (w : World) (hI : IsC w C l) (hJ : IsC w D k) (hs : s.size ≤ 140737488351232) (h : longB C = true ∨ longB D = true ∨ 2000 < s.size) :
    Calls Try.prog 5 #[.agg (cfgV C l), .agg (cfgV D k), .string s] w fun e w' => e = .returned (.bool true) ∧ Below w.heap.size w w' := by
  obtain ⟨pP, cP, pW, cW, pC, cC⟩ := l
  obtain ⟨qP, dP, qW, dW, qC, dC⟩ := k
  have HI := Lib.hid hI
  have HJ := Lib.hid hJ
  have HLC := Lib.hid fun (W : World) => longv (C := C) (p := pP) (q := pW) (r := pC) (c := cP) (d := cW) (k := cC) (w := W)
  have HLD := Lib.hid fun (W : World) => longv (C := D) (p := qP) (q := qW) (r := qC) (c := dP) (d := dW) (k := dC) (w := W)
  have HU := Lib.hid (show cfgV C ⟨pP, cP, pW, cW, pC, cC⟩ = #[.slice pP C.nP cP, .slice pW C.nW cW, .slice pC C.nC cC] from rfl)
  have HU2 := Lib.hid (show cfgV D ⟨qP, dP, qW, dW, qC, dC⟩ = #[.slice qP D.nP dP, .slice qW D.nW dW, .slice qC D.nC dC] from rfl)
  rw [HU.out, HU2.out]
  clear hI hJ HU HU2
  cases hlC : longB C with
  | true =>
    rw [hlC] at HLC
    clear hlC h
    go_enter Try.func5, Try.ntmps5
    go_wp2_with fail
    refine (HLC.out _).mono ?_; rintro e w1 ⟨rfl, b1⟩
    have HB1 := Lib.hid (bstep (a := w) (by go_grown) b1)
    clear b1
    go_wp2_with fail
    refine (awake_any _).mono ?_; rintro e w2 ⟨rfl, b2⟩
    go_wp2
    go_ret
    exact ⟨rfl, bstep HB1.out b2⟩
  | false =>
    rw [hlC] at HLC h
    clear hlC
    cases hlD : longB D with
    | true =>
      rw [hlD] at HLD
      clear hlD h
      go_enter Try.func5, Try.ntmps5
      go_wp2_with fail
      refine (HLC.out _).mono ?_; rintro e w1 ⟨rfl, b1⟩
      have HB1 := Lib.hid (bstep (a := w) (by go_grown) b1)
      have HV := Lib.hid (show CV w1 (w.heap.size + 1) D qP dP qW dW qC dC from ⟨bk_below (new2 _ _ _) b1, HJ.out.below HB1.out⟩)
      clear b1
      obtain ⟨y0, y1, y2, y3⟩ := HV.out.cells
      go_wp2_with fail
      refine (HLD.out _).mono ?_; rintro e w2 ⟨rfl, b2⟩
      have HB2 := Lib.hid (bstep HB1.out b2)
      clear b2 y0 y1 y2 y3
      go_wp2_with fail
      refine (awake_any _).mono ?_; rintro e w3 ⟨rfl, b3⟩
      go_wp2
      go_ret
      exact ⟨rfl, bstep HB2.out b3⟩
    | false =>
      rw [hlD] at HLD h
      have hs2 : (2000 : Int) < s.size := by
        rcases h with h | h | h
        · cases h
        · cases h
        · omega
      clear hlD h
      go_enter Try.func5, Try.ntmps5
      go_wp2_with fail
      refine (HLC.out _).mono ?_; rintro e w1 ⟨rfl, b1⟩
      have HB1 := Lib.hid (bstep (a := w) (by go_grown) b1)
      have HV := Lib.hid (show CV w1 (w.heap.size + 1) D qP dP qW dW qC dC from ⟨bk_below (new2 _ _ _) b1, HJ.out.below HB1.out⟩)
      clear b1
      obtain ⟨y0, y1, y2, y3⟩ := HV.out.cells
      go_wp2_with fail
      refine (HLD.out _).mono ?_; rintro e w2 ⟨rfl, b2⟩
      have HB2 := Lib.hid (bstep HB1.out b2)
      clear b2 y0 y1 y2 y3
      go_wp2_with fail
      refine (awake_any _).mono ?_; rintro e w3 ⟨rfl, b3⟩
      go_wp2
      go_ret
      exact ⟨rfl, bstep HB2.out b3⟩
set_option maxHeartbeats 4000000 in
theorem back_short (C D : Cfg) (l k : Lay) (s : ByteArray) (w : World) (hI : IsC w C l) (hJ : IsC w D k) (hlC : longB C = false) (hlD : longB D = false) (hs : s.size ≤ 2000) :
    Calls Try.prog 5 #[.agg (cfgV C l), .agg (cfgV D k), .string s] w fun e w' => e = .returned (.bool true) ∧ Below w.heap.size w w' := by
  obtain ⟨pP, cP, pW, cW, pC, cC⟩ := l
  obtain ⟨qP, dP, qW, dW, qC, dC⟩ := k
  have hNC := short_hN hlC
  have hND := short_hN hlD
  have HI := Lib.hid hI
  have HJ := Lib.hid hJ
  have HLC := Lib.hid fun (W : World) => longv (C := C) (p := pP) (q := pW) (r := pC) (c := cP) (d := cW) (k := cC) (w := W)
  have HLD := Lib.hid fun (W : World) => longv (C := D) (p := qP) (q := qW) (r := qC) (c := dP) (d := dW) (k := dC) (w := W)
  have HP := Lib.hid fun (W : World) (h : IsC W C ⟨pP, cP, pW, cW, pC, cC⟩) => putv h hNC
  have HPD := Lib.hid fun (W : World) (h : IsC W D ⟨qP, dP, qW, dW, qC, dC⟩) => putv h hND
  have HF := Lib.hid fun (W : World) (h : IsC W C ⟨pP, cP, pW, cW, pC, cC⟩) => framesv h hNC
  have HS := Lib.hid fun (W : World) (h : IsC W C ⟨pP, cP, pW, cW, pC, cC⟩) (h' : IsC W D ⟨qP, dP, qW, dW, qC, dC⟩) => samev h h' hNC
  have hsz : (putS C).size ≤ 2000 := by
    by_cases hok : CkOk C
    · rw [show putS C = confS C from if_pos hok, confS_size hok.1]
      have := hok.1.N
      omega
    · rw [show putS C = ⟨#[]⟩ from if_neg hok]
      exact Nat.zero_le _
  have hg1 := fun (W : World) => getv (w := W) (putS C) (by omega)
  have HG2 := Lib.hid fun (W : World) => getv (w := W) s (by omega)
  have hp2 := fun (p q r : Option Addr) (c d k : Nat) (W : World) (h : IsC W (gtC s) ⟨p, c, q, d, r, k⟩) => putv h (gtC_hN s)
  have HP2 := Lib.hid hp2
  have hsm := fun (p q r : Option Addr) (c d k : Nat) (W : World) (h : IsC W C ⟨pP, cP, pW, cW, pC, cC⟩) (h' : IsC W (gtC (putS C)) ⟨p, c, q, d, r, k⟩) => samev h h' hNC
  have HU := Lib.hid (show cfgV C ⟨pP, cP, pW, cW, pC, cC⟩ = #[.slice pP C.nP cP, .slice pW C.nW cW, .slice pC C.nC cC] from rfl)
  have HU2 := Lib.hid (show cfgV D ⟨qP, dP, qW, dW, qC, dC⟩ = #[.slice qP D.nP dP, .slice qW D.nW dW, .slice qC D.nC dC] from rfl)
  rw [HU.out, HU2.out]
  rw [hlC] at HLC
  rw [hlD] at HLD
  -- what the plain law says
  have f1 : ckE C = 0 → gtE (putS C) = 0 ∧ sameB C (gtC (putS C)) = true := fun h => by
    have hok := ckE_zero h
    rw [show putS C = confS C from if_pos hok]
    exact put_get hok
  have f2 : ckE C = 0 → ckE D = 0 → ((putS C).toList == (putS D).toList) = sameB C D := fun h h' => by
    have hok := ckE_zero h
    have hok' := ckE_zero h'
    rw [show putS C = confS C from if_pos hok, show putS D = confS D from if_pos hok', ByteArray.toList_eq, ByteArray.toList_eq]
    cases hx : sameB C D with
    | true => rw [confS_congr hx]; simp
    | false =>
      apply beq_eq_false_iff_ne.2
      intro he
      have := put_inj hok.1 hok'.1 (ByteArray.ext (Array.toList_inj.1 he))
      rw [hx] at this
      cases this
  have f3 : gtE s = 0 → ckE (gtC s) = 0 ∧ putS (gtC s) = s := fun h => by
    obtain ⟨a, b⟩ := get_put h
    exact ⟨ckE_ok a, b⟩
  have f4 : ckE C = 0 → frE C ≤ 1024 := fun h => (ckE_zero h).2
  clear hI hJ HU HU2 hlC hlD hNC hND hsz hp2
  have hs2 : ¬ (2000 : Int) < s.size := by omega
  clear hs
  by_cases ha : ckE C = 0
  · obtain ⟨a1, a2⟩ := f1 ha
    have xf := f4 ha
    have xfr : decide (frE C ≤ 1024) = true := decide_eq_true xf
    rw [a1] at hg1
    simp only [a2] at hsm
    rw [ha] at HP
    have HG1 := Lib.hid hg1
    have HSM := Lib.hid hsm
    generalize gtC (putS C) = G1 at *
    clear hg1 hsm a1 a2 f4
    by_cases hb : ckE D = 0
    · have xe := f2 ha hb
      rw [hb] at HPD
      clear ha hb f2 f1
      generalize hX : sameB C D = X at *
      generalize hF : frE C = F at *
      clear hX hF
      generalize putS C = S at *
      generalize putS D = T at *
      have xe2 : ((S.toList == T.toList) != X) = false := by rw [xe]; simp
      have xe3 : (X != X) = false := by simp
      go_enter Try.func5, Try.ntmps5
      go_wp2_with fail
      refine (HLC.out _).mono ?_; rintro e w1 ⟨rfl, b1⟩
      have HB1 := Lib.hid (bstep (a := w) (by go_grown) b1)
      have HV1 := Lib.hid (show CV w1 w.heap.size C pP cP pW cW pC cC from ⟨bk_below (bk_alloc (bk_new w _) _) b1, HI.out.below HB1.out⟩)
      have HW1 := Lib.hid (show CV w1 (w.heap.size + 1) D qP dP qW dW qC dC from ⟨bk_below (new2 _ _ _) b1, HJ.out.below HB1.out⟩)
      clear b1
      obtain ⟨y0, y1, y2, y3⟩ := HW1.out.cells
      go_wp2_with fail
      refine (HLD.out _).mono ?_; rintro e w2 ⟨rfl, b2⟩
      have HB2 := Lib.hid (bstep HB1.out b2)
      have HV2 := Lib.hid (HV1.out.below b2)
      have HW2 := Lib.hid (HW1.out.below b2)
      clear b2 y0 y1 y2 y3 HB1 HV1 HW1
      obtain ⟨y0, y1, y2, y3⟩ := HV2.out.cells
      go_wp2_with fail
      refine (HP.out _ HV2.out.i).mono ?_; rintro e w3 ⟨rfl, b3⟩
      have HB3 := Lib.hid (bstep HB2.out b3)
      have HV3 := Lib.hid (HV2.out.below b3)
      have HW3 := Lib.hid (HW2.out.below b3)
      clear b3 y0 y1 y2 y3 HB2 HV2 HW2
      obtain ⟨y0, y1, y2, y3⟩ := HW3.out.cells
      go_wp2_with fail
      refine (HPD.out _ HW3.out.i).mono ?_; rintro e w4 ⟨rfl, b4⟩
      have HB4 := Lib.hid (bstep HB3.out b4)
      have HV4 := Lib.hid (HV3.out.below b4)
      have HW4 := Lib.hid (HW3.out.below b4)
      clear b4 y0 y1 y2 y3 HB3 HV3 HW3
      go_wp2_with fail
      refine (HG1.out _).mono ?_; rintro e w5 ⟨t1, t2, t3, t4, t5, t6, rfl, hg5, b5⟩
      have HB5 := Lib.hid ((bstep HB4.out b5).alloc (bstep HB4.out b5).size (.cells #[.slice t1 G1.nP t2, .slice t3 G1.nW t4, .slice t5 G1.nC t6] 26))
      have HV5 := Lib.hid ((HV4.out.below b5).alloc (.cells #[.slice t1 G1.nP t2, .slice t3 G1.nW t4, .slice t5 G1.nC t6] 26))
      have HW5 := Lib.hid ((HW4.out.below b5).alloc (.cells #[.slice t1 G1.nP t2, .slice t3 G1.nW t4, .slice t5 G1.nC t6] 26))
      have HD5 := Lib.hid (CV.new hg5)
      clear hg5 b5 HB4 HV4 HW4
      obtain ⟨y0, y1, y2, y3⟩ := HV5.out.cells
      obtain ⟨z0, z1, z2, z3⟩ := HD5.out.cells
      go_wp2_with fail
      refine (HSM.out _ _ _ _ _ _ _ HV5.out.i HD5.out.i).mono ?_; rintro e w6 ⟨rfl, b6⟩
      have HB6 := Lib.hid (bstep HB5.out b6)
      have HV6 := Lib.hid (HV5.out.below b6)
      have HW6 := Lib.hid (HW5.out.below b6)
      clear b6 y0 y1 y2 y3 z0 z1 z2 z3 HB5 HV5 HW5 HD5
      obtain ⟨y0, y1, y2, y3⟩ := HV6.out.cells
      obtain ⟨z0, z1, z2, z3⟩ := HW6.out.cells
      go_wp2_with fail
      refine (HS.out _ HV6.out.i HW6.out.i).mono ?_; rintro e w7 ⟨rfl, b7⟩
      have HBx := Lib.hid (bstep HB6.out b7)
      have HVx := Lib.hid (HV6.out.below b7)
      clear b7 y0 y1 y2 y3 z0 z1 z2 z3 HB6 HV6 HW6
      go_wp2_with fail
      refine (HG2.out _).mono ?_; rintro e wg ⟨u1, u2, u3, u4, u5, u6, rfl, hg, bg⟩
      have HBg := Lib.hid ((bstep HBx.out bg).alloc (bstep HBx.out bg).size (.cells #[.slice u1 (gtC s).nP u2, .slice u3 (gtC s).nW u4, .slice u5 (gtC s).nC u6] 26))
      have HVg := Lib.hid ((HVx.out.below bg).alloc (.cells #[.slice u1 (gtC s).nP u2, .slice u3 (gtC s).nW u4, .slice u5 (gtC s).nC u6] 26))
      have HDg := Lib.hid (CV.new hg)
      clear hg bg
      by_cases hh : gtE s = 0
      · have HH := Lib.hid (f3 hh)
        have hpp := fun (W : World) (h : IsC W (gtC s) ⟨u1, u2, u3, u4, u5, u6⟩) => HP2.out u1 u3 u5 u2 u4 u6 W h
        rw [HH.out.1, HH.out.2] at hpp
        rw [hh]
        have HPP := Lib.hid hpp
        have xs : (s.toList == s.toList) = true := by simp
        clear hh hpp f3
        generalize gtC s = GG at *
        go_wp2_with fail
        refine (HPP.out _ HDg.out.i).mono ?_; rintro e wp ⟨rfl, bp⟩
        have HBp := Lib.hid (bstep HBg.out bp)
        have HVp := Lib.hid (HVg.out.below bp)
        clear bp
        obtain ⟨y0, y1, y2, y3⟩ := HVp.out.cells
        go_wp2_with fail
        refine (HF.out _ HVp.out.i).mono ?_; rintro e wf ⟨rfl, bf⟩
        have HBf := Lib.hid (bstep HBp.out bf)
        clear bf y0 y1 y2 y3
        go_wp2_with fail
        refine (awake_any _).mono ?_; rintro e wa ⟨rfl, ba⟩
        go_wp2
        go_ret
        exact ⟨by simp, bstep HBf.out ba⟩
      · have HH := Lib.hid hh
        have HPP := Lib.hid (fun (W : World) (h : IsC W (gtC s) ⟨u1, u2, u3, u4, u5, u6⟩) => HP2.out u1 u3 u5 u2 u4 u6 W h)
        clear f3
        generalize ckE (gtC s) = EE at *
        generalize putS (gtC s) = ZZ at *
        generalize gtE s = HE at *
        have xh1 : (HE != 0) = true := by simpa using hh
        have xh2 : (HE == 0) = false := by simpa using hh
        clear hh HH
        generalize gtC s = GG at *
        go_wp2_with fail
        refine (HPP.out _ HDg.out.i).mono ?_; rintro e wp ⟨rfl, bp⟩
        have HBp := Lib.hid (bstep HBg.out bp)
        have HVp := Lib.hid (HVg.out.below bp)
        clear bp
        obtain ⟨y0, y1, y2, y3⟩ := HVp.out.cells
        go_wp2_with fail
        refine (HF.out _ HVp.out.i).mono ?_; rintro e wf ⟨rfl, bf⟩
        have HBf := Lib.hid (bstep HBp.out bf)
        clear bf y0 y1 y2 y3
        go_wp2_with fail
        refine (awake_any _).mono ?_; rintro e wa ⟨rfl, ba⟩
        go_wp2
        go_ret
        exact ⟨by simp, bstep HBf.out ba⟩
    · clear f2 f1
      have xb1 : (ckE D != 0) = true := by simpa using hb
      have xb2 : (ckE D == 0) = false := by simpa using hb
      generalize ckE D = ED at *
      clear ha hb
      generalize hF : frE C = F at *
      clear hF
      generalize putS C = S at *
      generalize putS D = T at *
      go_enter Try.func5, Try.ntmps5
      go_wp2_with fail
      refine (HLC.out _).mono ?_; rintro e w1 ⟨rfl, b1⟩
      have HB1 := Lib.hid (bstep (a := w) (by go_grown) b1)
      have HV1 := Lib.hid (show CV w1 w.heap.size C pP cP pW cW pC cC from ⟨bk_below (bk_alloc (bk_new w _) _) b1, HI.out.below HB1.out⟩)
      have HW1 := Lib.hid (show CV w1 (w.heap.size + 1) D qP dP qW dW qC dC from ⟨bk_below (new2 _ _ _) b1, HJ.out.below HB1.out⟩)
      clear b1
      obtain ⟨y0, y1, y2, y3⟩ := HW1.out.cells
      go_wp2_with fail
      refine (HLD.out _).mono ?_; rintro e w2 ⟨rfl, b2⟩
      have HB2 := Lib.hid (bstep HB1.out b2)
      have HV2 := Lib.hid (HV1.out.below b2)
      have HW2 := Lib.hid (HW1.out.below b2)
      clear b2 y0 y1 y2 y3 HB1 HV1 HW1
      obtain ⟨y0, y1, y2, y3⟩ := HV2.out.cells
      go_wp2_with fail
      refine (HP.out _ HV2.out.i).mono ?_; rintro e w3 ⟨rfl, b3⟩
      have HB3 := Lib.hid (bstep HB2.out b3)
      have HV3 := Lib.hid (HV2.out.below b3)
      have HW3 := Lib.hid (HW2.out.below b3)
      clear b3 y0 y1 y2 y3 HB2 HV2 HW2
      obtain ⟨y0, y1, y2, y3⟩ := HW3.out.cells
      go_wp2_with fail
      refine (HPD.out _ HW3.out.i).mono ?_; rintro e w4 ⟨rfl, b4⟩
      have HB4 := Lib.hid (bstep HB3.out b4)
      have HV4 := Lib.hid (HV3.out.below b4)
      have HW4 := Lib.hid (HW3.out.below b4)
      clear b4 y0 y1 y2 y3 HB3 HV3 HW3
      go_wp2_with fail
      refine (HG1.out _).mono ?_; rintro e w5 ⟨t1, t2, t3, t4, t5, t6, rfl, hg5, b5⟩
      have HB5 := Lib.hid ((bstep HB4.out b5).alloc (bstep HB4.out b5).size (.cells #[.slice t1 G1.nP t2, .slice t3 G1.nW t4, .slice t5 G1.nC t6] 26))
      have HV5 := Lib.hid ((HV4.out.below b5).alloc (.cells #[.slice t1 G1.nP t2, .slice t3 G1.nW t4, .slice t5 G1.nC t6] 26))
      have HW5 := Lib.hid ((HW4.out.below b5).alloc (.cells #[.slice t1 G1.nP t2, .slice t3 G1.nW t4, .slice t5 G1.nC t6] 26))
      have HD5 := Lib.hid (CV.new hg5)
      clear hg5 b5 HB4 HV4 HW4
      obtain ⟨y0, y1, y2, y3⟩ := HV5.out.cells
      obtain ⟨z0, z1, z2, z3⟩ := HD5.out.cells
      go_wp2_with fail
      refine (HSM.out _ _ _ _ _ _ _ HV5.out.i HD5.out.i).mono ?_; rintro e w6 ⟨rfl, b6⟩
      have HBx := Lib.hid (bstep HB5.out b6)
      have HVx := Lib.hid (HV5.out.below b6)
      clear b6 y0 y1 y2 y3 z0 z1 z2 z3 HB5 HV5 HW5 HD5
      go_wp2_with fail
      refine (HG2.out _).mono ?_; rintro e wg ⟨u1, u2, u3, u4, u5, u6, rfl, hg, bg⟩
      have HBg := Lib.hid ((bstep HBx.out bg).alloc (bstep HBx.out bg).size (.cells #[.slice u1 (gtC s).nP u2, .slice u3 (gtC s).nW u4, .slice u5 (gtC s).nC u6] 26))
      have HVg := Lib.hid ((HVx.out.below bg).alloc (.cells #[.slice u1 (gtC s).nP u2, .slice u3 (gtC s).nW u4, .slice u5 (gtC s).nC u6] 26))
      have HDg := Lib.hid (CV.new hg)
      clear hg bg
      by_cases hh : gtE s = 0
      · have HH := Lib.hid (f3 hh)
        have hpp := fun (W : World) (h : IsC W (gtC s) ⟨u1, u2, u3, u4, u5, u6⟩) => HP2.out u1 u3 u5 u2 u4 u6 W h
        rw [HH.out.1, HH.out.2] at hpp
        rw [hh]
        have HPP := Lib.hid hpp
        have xs : (s.toList == s.toList) = true := by simp
        clear hh hpp f3
        generalize gtC s = GG at *
        go_wp2_with fail
        refine (HPP.out _ HDg.out.i).mono ?_; rintro e wp ⟨rfl, bp⟩
        have HBp := Lib.hid (bstep HBg.out bp)
        have HVp := Lib.hid (HVg.out.below bp)
        clear bp
        obtain ⟨y0, y1, y2, y3⟩ := HVp.out.cells
        go_wp2_with fail
        refine (HF.out _ HVp.out.i).mono ?_; rintro e wf ⟨rfl, bf⟩
        have HBf := Lib.hid (bstep HBp.out bf)
        clear bf y0 y1 y2 y3
        go_wp2_with fail
        refine (awake_any _).mono ?_; rintro e wa ⟨rfl, ba⟩
        go_wp2
        go_ret
        exact ⟨by simp, bstep HBf.out ba⟩
      · have HH := Lib.hid hh
        have HPP := Lib.hid (fun (W : World) (h : IsC W (gtC s) ⟨u1, u2, u3, u4, u5, u6⟩) => HP2.out u1 u3 u5 u2 u4 u6 W h)
        clear f3
        generalize ckE (gtC s) = EE at *
        generalize putS (gtC s) = ZZ at *
        generalize gtE s = HE at *
        have xh1 : (HE != 0) = true := by simpa using hh
        have xh2 : (HE == 0) = false := by simpa using hh
        clear hh HH
        generalize gtC s = GG at *
        go_wp2_with fail
        refine (HPP.out _ HDg.out.i).mono ?_; rintro e wp ⟨rfl, bp⟩
        have HBp := Lib.hid (bstep HBg.out bp)
        have HVp := Lib.hid (HVg.out.below bp)
        clear bp
        obtain ⟨y0, y1, y2, y3⟩ := HVp.out.cells
        go_wp2_with fail
        refine (HF.out _ HVp.out.i).mono ?_; rintro e wf ⟨rfl, bf⟩
        have HBf := Lib.hid (bstep HBp.out bf)
        clear bf y0 y1 y2 y3
        go_wp2_with fail
        refine (awake_any _).mono ?_; rintro e wa ⟨rfl, ba⟩
        go_wp2
        go_ret
        exact ⟨by simp, bstep HBf.out ba⟩
  · have xa1 : (ckE C != 0) = true := by simpa using ha
    have xa2 : (ckE C == 0) = false := by simpa using ha
    have HG1 := Lib.hid hg1
    clear hg1 hsm f1 f2 f4
    generalize gtE (putS C) = E1 at *
    generalize gtC (putS C) = G1 at *
    generalize ckE C = EC at *
    generalize ckE D = ED at *
    clear ha
    generalize putS C = S at *
    generalize putS D = T at *
    go_enter Try.func5, Try.ntmps5
    go_wp2_with fail
    refine (HLC.out _).mono ?_; rintro e w1 ⟨rfl, b1⟩
    have HB1 := Lib.hid (bstep (a := w) (by go_grown) b1)
    have HV1 := Lib.hid (show CV w1 w.heap.size C pP cP pW cW pC cC from ⟨bk_below (bk_alloc (bk_new w _) _) b1, HI.out.below HB1.out⟩)
    have HW1 := Lib.hid (show CV w1 (w.heap.size + 1) D qP dP qW dW qC dC from ⟨bk_below (new2 _ _ _) b1, HJ.out.below HB1.out⟩)
    clear b1
    obtain ⟨y0, y1, y2, y3⟩ := HW1.out.cells
    go_wp2_with fail
    refine (HLD.out _).mono ?_; rintro e w2 ⟨rfl, b2⟩
    have HB2 := Lib.hid (bstep HB1.out b2)
    have HV2 := Lib.hid (HV1.out.below b2)
    have HW2 := Lib.hid (HW1.out.below b2)
    clear b2 y0 y1 y2 y3 HB1 HV1 HW1
    obtain ⟨y0, y1, y2, y3⟩ := HV2.out.cells
    go_wp2_with fail
    refine (HP.out _ HV2.out.i).mono ?_; rintro e w3 ⟨rfl, b3⟩
    have HB3 := Lib.hid (bstep HB2.out b3)
    have HV3 := Lib.hid (HV2.out.below b3)
    have HW3 := Lib.hid (HW2.out.below b3)
    clear b3 y0 y1 y2 y3 HB2 HV2 HW2
    obtain ⟨y0, y1, y2, y3⟩ := HW3.out.cells
    go_wp2_with fail
    refine (HPD.out _ HW3.out.i).mono ?_; rintro e w4 ⟨rfl, b4⟩
    have HB4 := Lib.hid (bstep HB3.out b4)
    have HV4 := Lib.hid (HV3.out.below b4)
    have HW4 := Lib.hid (HW3.out.below b4)
    clear b4 y0 y1 y2 y3 HB3 HV3 HW3
    go_wp2_with fail
    refine (HG1.out _).mono ?_; rintro e w5 ⟨t1, t2, t3, t4, t5, t6, rfl, hg5, b5⟩
    have HB5 := Lib.hid ((bstep HB4.out b5).alloc (bstep HB4.out b5).size (.cells #[.slice t1 G1.nP t2, .slice t3 G1.nW t4, .slice t5 G1.nC t6] 26))
    have HV5 := Lib.hid ((HV4.out.below b5).alloc (.cells #[.slice t1 G1.nP t2, .slice t3 G1.nW t4, .slice t5 G1.nC t6] 26))
    have HW5 := Lib.hid ((HW4.out.below b5).alloc (.cells #[.slice t1 G1.nP t2, .slice t3 G1.nW t4, .slice t5 G1.nC t6] 26))
    have HD5 := Lib.hid (CV.new hg5)
    clear hg5 b5 HB4 HV4 HW4
    have HBx := HB5
    have HVx := HV5
    clear HB5 HV5 HW5 HD5
    go_wp2_with fail
    refine (HG2.out _).mono ?_; rintro e wg ⟨u1, u2, u3, u4, u5, u6, rfl, hg, bg⟩
    have HBg := Lib.hid ((bstep HBx.out bg).alloc (bstep HBx.out bg).size (.cells #[.slice u1 (gtC s).nP u2, .slice u3 (gtC s).nW u4, .slice u5 (gtC s).nC u6] 26))
    have HVg := Lib.hid ((HVx.out.below bg).alloc (.cells #[.slice u1 (gtC s).nP u2, .slice u3 (gtC s).nW u4, .slice u5 (gtC s).nC u6] 26))
    have HDg := Lib.hid (CV.new hg)
    clear hg bg
    by_cases hh : gtE s = 0
    · have HH := Lib.hid (f3 hh)
      have hpp := fun (W : World) (h : IsC W (gtC s) ⟨u1, u2, u3, u4, u5, u6⟩) => HP2.out u1 u3 u5 u2 u4 u6 W h
      rw [HH.out.1, HH.out.2] at hpp
      rw [hh]
      have HPP := Lib.hid hpp
      have xs : (s.toList == s.toList) = true := by simp
      clear hh hpp f3
      generalize gtC s = GG at *
      go_wp2_with fail
      refine (HPP.out _ HDg.out.i).mono ?_; rintro e wp ⟨rfl, bp⟩
      have HBp := Lib.hid (bstep HBg.out bp)
      have HVp := Lib.hid (HVg.out.below bp)
      clear bp
      go_wp2_with fail
      refine (awake_any _).mono ?_; rintro e wa ⟨rfl, ba⟩
      go_wp2
      go_ret
      exact ⟨by simp, bstep HBp.out ba⟩
    · have HH := Lib.hid hh
      have HPP := Lib.hid (fun (W : World) (h : IsC W (gtC s) ⟨u1, u2, u3, u4, u5, u6⟩) => HP2.out u1 u3 u5 u2 u4 u6 W h)
      clear f3
      generalize ckE (gtC s) = EE at *
      generalize putS (gtC s) = ZZ at *
      generalize gtE s = HE at *
      have xh1 : (HE != 0) = true := by simpa using hh
      have xh2 : (HE == 0) = false := by simpa using hh
      clear hh HH
      generalize gtC s = GG at *
      go_wp2_with fail
      refine (HPP.out _ HDg.out.i).mono ?_; rintro e wp ⟨rfl, bp⟩
      have HBp := Lib.hid (bstep HBg.out bp)
      have HVp := Lib.hid (HVg.out.below bp)
      clear bp
      go_wp2_with fail
      refine (awake_any _).mono ?_; rintro e wa ⟨rfl, ba⟩
      go_wp2
      go_ret
      exact ⟨by simp, bstep HBp.out ba⟩
theorem ConfBack_any (C D : Cfg) (l k : Lay) (s : ByteArray) (w : World) (hI : IsC w C l) (hJ : IsC w D k) (hs : s.size ≤ 140737488351232) :
    Calls Try.prog 5 #[.agg (cfgV C l), .agg (cfgV D k), .string s] w fun e w' => e = .returned (.bool true) ∧ Below w.heap.size w w' := by
  by_cases h : longB C = true ∨ longB D = true ∨ 2000 < s.size
  · exact back_long C D l k s w hI hJ hs h
  · have h1 : longB C = false := by
      cases hb : longB C with
      | false => rfl
      | true => exact absurd (.inl hb) h
    have h2 : longB D = false := by
      cases hb : longB D with
      | false => rfl
      | true => exact absurd (.inr (.inl hb)) h
    have h3 : s.size ≤ 2000 := by
      by_cases g : s.size ≤ 2000
      · exact g
      · exact absurd (.inr (.inr (by omega))) h
    exact back_short C D l k s w hI hJ h1 h2 h3
end Go.Proofs.Ythgoighpmnecbaa
