/- The law PlanSame. -/
import Derived.Test.YtjbblocfdfjfmaaLFrames
namespace Go.Proofs.Ytjbblocfdfjfmaa
open Go.RowKit
set_option linter.unusedVariables false
set_option linter.unusedSimpArgs false
/-- the parts and channels of one, the windows of another one -/
def mixC (A B : Cfg) : Cfg := ⟨B.nP, A.nW, B.nC, B.q, B.s, A.wp, A.wt, B.cf, B.ct, B.cc, B.cw⟩
def mixL (a b : Lay) : Lay := ⟨b.pP, b.cP, a.pW, a.cW, b.pC, b.cC⟩
theorem mixI {A B : Cfg} {a b : Lay} {w : World} (ha : IsC w A a) (hb : IsC w B b) : IsC w (mixC A B) (mixL a b) := ⟨hb.P, ha.W, hb.C⟩
theorem mix_row (A B : Cfg) : ∀ n, rowTo (mixC A B) n = rowTo A n
  | 0 => rfl
  | n + 1 => by
    simp only [rowTo, mix_row A B n]
    rfl
theorem mix_sum (A B : Cfg) : ∀ n, sumF (mixC A B).wt n = sumF A.wt n
  | 0 => rfl
  | n + 1 => by
    simp only [sumF, mix_sum A B n]
    rfl
theorem mix_maj (A B : Cfg) : majT (mixC A B) = majT A := mix_sum A B A.nW
theorem mix_turnW {A B : Cfg} (ha : CkOk A) (hc : CkOk (mixC A B)) (t : Int) : turnW (mixC A B) t = turnW A t := by
  unfold turnW
  rw [if_pos ha, if_pos hc, mix_maj]
  unfold winAt rowL
  rw [mix_row]
  rfl
theorem mix_turnP {A B : Cfg} (ha : CkOk A) (hc : CkOk (mixC A B)) (t : Int) : turnP (mixC A B) t = turnP A t := by
  have h := mix_turnW ha hc t
  unfold turnW at h
  rw [if_pos ha, if_pos hc] at h
  unfold turnP
  rw [if_pos ha, if_pos hc, h]
  rfl
theorem mix_own {A B : Cfg} (hb : CkOk B) (hc : CkOk (mixC A B)) (p : Int) : ownA (mixC A B) p = ownA B p ∧ ownB (mixC A B) p = ownB B p ∧ ownE (mixC A B) p = ownE B p := by
  by_cases h : 0 ≤ p ∧ p < B.nP
  · obtain ⟨i, rfl⟩ : ∃ i : Nat, p = i := ⟨p.toNat, by omega⟩
    have hi : i < B.nP := by omega
    obtain ⟨a1, a2, a3, _⟩ := own_in hb hi
    obtain ⟨b1, b2, b3, _⟩ := own_in (C := mixC A B) hc hi
    rw [a1, a2, a3, b1, b2, b3]
    exact ⟨rfl, rfl, rfl⟩
  · obtain ⟨a1, a2, a3, _⟩ := own_out hb h
    obtain ⟨b1, b2, b3, _⟩ := own_out (C := mixC A B) hc h
    rw [a1, a2, a3, b1, b2, b3]
    exact ⟨rfl, rfl, rfl⟩
theorem ckE_bne {C : Cfg} (h : ¬ CkOk C) : (ckE C != 0) = true := by
  have := ckE_ne h
  simp only [bne, this]
  rfl
theorem mix_big {A B : Cfg} (ha : Big A) (hb : Big B) : Big (mixC A B) := ⟨hb.1, ha.2.1, hb.2.2⟩
/-- both configurations in their variables -/
def In2 (A B : Cfg) (a b : Lay) (n : Nat) (w V : World) : Prop := InV A a n w V ∧ InV B b (n + 1) w V
theorem In2.below {A B : Cfg} {a b : Lay} {n : Nat} {w V V' : World} (h : In2 A B a b n w V) (hb : Below V.heap.size V V') : In2 A B a b n w V' := ⟨h.1.below hb, h.2.below hb⟩
theorem in2_new {A B : Cfg} {a b : Lay} {w : World} (ha : IsC w A a) (hb : IsC w B b) : In2 A B a b w.heap.size w ((w.alloc (.cells (cfgV A a) 26)).alloc (.cells (cfgV B b) 26)) := by
  have g : Below w.heap.size w ((w.alloc (.cells (cfgV A a) 26)).alloc (.cells (cfgV B b) 26)) := ((Below.refl _ _).alloc (Nat.le_refl _) _).alloc (by simp) _
  refine ⟨⟨bk_alloc (bk_new _ _) _, ha.below g, g⟩, ⟨?_, hb.below g, g⟩⟩
  have := bk_new (w.alloc (.cells (cfgV A a) 26)) (.cells (cfgV B b) 26)
  rwa [World.size_alloc] at this
set_option maxHeartbeats 4000000 in
theorem PlanSame_any (A B : Cfg) (la lb : Lay) (t p : Int) (w : World) (hA : IsC w A la) (hB : IsC w B lb) (h0 : 0 ≤ t) (h1 : t < 18446744073709551616) :
    Calls Try.prog 7 #[.agg (cfgV A la), .agg (cfgV B lb), .int .u64 t, .int .i64 p] w fun e w' => e = .returned (.bool true) ∧ Below w.heap.size w w' := by
  have HI0 := Lib.hid (in2_new hA hB)
  clear hA hB
  have HLA := Lib.hid fun (W : World) => long_yes A la W
  have HNA := Lib.hid fun (W : World) => long_no A la W
  have HLB := Lib.hid fun (W : World) => long_yes B lb W
  have HNB := Lib.hid fun (W : World) => long_no B lb W
  by_cases hLA : Long A
  · have HX := Lib.hid fun (W : World) => HLA.out W hLA
    clear HLA HNA HLB HNB hLA
    obtain ⟨pP, cP, pW, cW, pC, cC⟩ := la
    obtain ⟨qP, dP, qW, dW, qC, dC⟩ := lb
    unfold cfgV at *
    simp only [mixL] at *
    go_enter Try.func7, Try.ntmps7
    go_wp2_with fail
    refine (HX.out _).mono ?_; rintro e w1 ⟨rfl, hb1⟩
    have HI1 := Lib.hid (HI0.out.below hb1)
    clear hb1
    go_wp2_with fail
    refine (awake_any _).mono ?_; rintro e w2 ⟨rfl, hb2⟩
    go_wp2
    go_ret
    exact ⟨rfl, bstep HI1.out.1.2.2 hb2⟩
  have HX := Lib.hid fun (W : World) => HNA.out W hLA
  by_cases hLB : Long B
  · have HY := Lib.hid fun (W : World) => HLB.out W hLB
    clear HLA HNA HLB HNB hLA hLB
    obtain ⟨pP, cP, pW, cW, pC, cC⟩ := la
    obtain ⟨qP, dP, qW, dW, qC, dC⟩ := lb
    unfold cfgV at *
    simp only [mixL] at *
    go_enter Try.func7, Try.ntmps7
    go_wp2_with fail
    refine (HX.out _).mono ?_; rintro e w1 ⟨rfl, hb1⟩
    have HI1 := Lib.hid (HI0.out.below hb1)
    obtain ⟨c0, c1, c2⟩ := HI1.out.2.cells
    clear hb1
    go_wp2_with fail
    clear c0 c1 c2
    refine (HY.out _).mono ?_; rintro e w2 ⟨rfl, hb2⟩
    have HI2 := Lib.hid (HI1.out.below hb2)
    clear hb2
    go_wp2_with fail
    refine (awake_any _).mono ?_; rintro e w3 ⟨rfl, hb3⟩
    go_wp2
    go_ret
    exact ⟨rfl, bstep HI2.out.1.2.2 hb3⟩
  have HY := Lib.hid fun (W : World) => HNB.out W hLB
  have hNA := not_long hLA
  have hNB := not_long hLB
  have hNC := mix_big hNA hNB
  have HKA := Lib.hid fun (W : World) (h : IsC W A la) => check_any A la W h hNA
  have HKB := Lib.hid fun (W : World) (h : IsC W B lb) => check_any B lb W h hNB
  have HKC := Lib.hid fun (W : World) (h : IsC W (mixC A B) (mixL la lb)) => check_any (mixC A B) (mixL la lb) W h hNC
  have HTA := Lib.hid fun (W : World) (h : IsC W A la) => turn_any A la t W h hNA h0 h1
  have HTC := Lib.hid fun (W : World) (h : IsC W (mixC A B) (mixL la lb)) => turn_any (mixC A B) (mixL la lb) t W h hNC h0 h1
  have HOB := Lib.hid fun (W : World) (h : IsC W B lb) => own_any B lb p W h hNB
  have HOC := Lib.hid fun (W : World) (h : IsC W (mixC A B) (mixL la lb)) => own_any (mixC A B) (mixL la lb) p W h hNC
  clear HLA HNA HLB HNB hLA hLB hNA hNB hNC
  by_cases hkA : CkOk A
  case neg =>
    have ka := ckE_ne hkA
    have ka2 := ckE_bne hkA
    clear hkA HKB HKC HTA HTC HOB HOC
    generalize ckE A = ea at *
    obtain ⟨pP, cP, pW, cW, pC, cC⟩ := la
    obtain ⟨qP, dP, qW, dW, qC, dC⟩ := lb
    unfold cfgV at *
    simp only [mixL] at *
    go_enter Try.func7, Try.ntmps7
    go_wp2_with fail
    refine (HX.out _).mono ?_; rintro e w1 ⟨rfl, hb1⟩
    have HI1 := Lib.hid (HI0.out.below hb1)
    obtain ⟨c0, c1, c2⟩ := HI1.out.2.cells
    clear hb1
    go_wp2_with fail
    clear c0 c1 c2
    refine (HY.out _).mono ?_; rintro e w2 ⟨rfl, hb2⟩
    have HI2 := Lib.hid (HI1.out.below hb2)
    obtain ⟨c0, c1, c2⟩ := HI2.out.1.cells
    obtain ⟨d0, d1, d2⟩ := HI2.out.2.cells
    have hz2 := bk_lt HI2.out.2.1
    have hz3 := bk_lt HI2.out.1.1
    clear hb2
    go_wp2_with fail
    refine calls_abs (fun V => In2 A B ⟨pP, cP, pW, cW, pC, cC⟩ ⟨qP, dP, qW, dW, qC, dC⟩ w.heap.size w V ∧ V.heap[w2.heap.size]? = some (.cells #[.slice qP B.nP dP, .slice pW A.nW cW, .slice qC B.nC dC] 26 (0, 0))) ⟨HI2.out.below ((Below.refl _ _).alloc (Nat.le_refl _) _), bk_new w2 _⟩ ?_
    clear c0 c1 c2 d0 d1 d2
    rintro V ⟨hV, hM⟩
    have HI2 := Lib.hid hV
    have HM2 := Lib.hid hM
    clear hV hM
    refine (HKA.out _ (by exact HI2.out.1.2.1)).mono ?_; rintro e w3 ⟨rfl, hb3⟩
    have HI3 := Lib.hid (HI2.out.below hb3)
    clear hb3
    go_wp2_with fail
    refine (awake_any _).mono ?_; rintro e wz ⟨rfl, hbz⟩
    go_wp2
    go_ret
    exact ⟨rfl, bstep HI3.out.1.2.2 hbz⟩
  case pos =>
  by_cases hkB : CkOk B
  case neg =>
    have ka := ckE_ok hkA
    have kb := ckE_ne hkB
    have kb2 := ckE_bne hkB
    rw [ka] at HKA
    clear ka hkA hkB HKC HTA HTC HOB HOC
    generalize ckE B = ea at *
    obtain ⟨pP, cP, pW, cW, pC, cC⟩ := la
    obtain ⟨qP, dP, qW, dW, qC, dC⟩ := lb
    unfold cfgV at *
    simp only [mixL] at *
    go_enter Try.func7, Try.ntmps7
    go_wp2_with fail
    refine (HX.out _).mono ?_; rintro e w1 ⟨rfl, hb1⟩
    have HI1 := Lib.hid (HI0.out.below hb1)
    obtain ⟨c0, c1, c2⟩ := HI1.out.2.cells
    clear hb1
    go_wp2_with fail
    clear c0 c1 c2
    refine (HY.out _).mono ?_; rintro e w2 ⟨rfl, hb2⟩
    have HI2 := Lib.hid (HI1.out.below hb2)
    obtain ⟨c0, c1, c2⟩ := HI2.out.1.cells
    obtain ⟨d0, d1, d2⟩ := HI2.out.2.cells
    have hz2 := bk_lt HI2.out.2.1
    have hz3 := bk_lt HI2.out.1.1
    clear hb2
    go_wp2_with fail
    refine calls_abs (fun V => In2 A B ⟨pP, cP, pW, cW, pC, cC⟩ ⟨qP, dP, qW, dW, qC, dC⟩ w.heap.size w V ∧ V.heap[w2.heap.size]? = some (.cells #[.slice qP B.nP dP, .slice pW A.nW cW, .slice qC B.nC dC] 26 (0, 0))) ⟨HI2.out.below ((Below.refl _ _).alloc (Nat.le_refl _) _), bk_new w2 _⟩ ?_
    clear c0 c1 c2 d0 d1 d2
    rintro V ⟨hV, hM⟩
    have HI2 := Lib.hid hV
    have HM2 := Lib.hid hM
    clear hV hM
    refine (HKA.out _ (by exact HI2.out.1.2.1)).mono ?_; rintro e w3 ⟨rfl, hb3⟩
    have HI3 := Lib.hid (HI2.out.below hb3)
    obtain ⟨c0, c1, c2⟩ := HI3.out.2.cells
    clear hb3
    go_wp2_with fail
    clear c0 c1 c2
    refine (HKB.out _ (by exact HI3.out.2.2.1)).mono ?_; rintro e w4 ⟨rfl, hb4⟩
    have HI4 := Lib.hid (HI3.out.below hb4)
    clear hb4
    go_wp2_with fail
    refine (awake_any _).mono ?_; rintro e wz ⟨rfl, hbz⟩
    go_wp2
    go_ret
    exact ⟨rfl, bstep HI4.out.1.2.2 hbz⟩
  case pos =>
  have ka := ckE_ok hkA
  have kb := ckE_ok hkB
  rw [ka] at HKA HTA
  rw [kb] at HKB
  by_cases hkC : CkOk (mixC A B)
  case neg =>
    have kc := ckE_ne hkC
    have kc2 := ckE_bne hkC
    clear ka kb hkA hkB hkC HTA HTC HOB HOC
    generalize ckE (mixC A B) = ea at *
    obtain ⟨pP, cP, pW, cW, pC, cC⟩ := la
    obtain ⟨qP, dP, qW, dW, qC, dC⟩ := lb
    unfold cfgV at *
    simp only [mixL] at *
    go_enter Try.func7, Try.ntmps7
    go_wp2_with fail
    refine (HX.out _).mono ?_; rintro e w1 ⟨rfl, hb1⟩
    have HI1 := Lib.hid (HI0.out.below hb1)
    obtain ⟨c0, c1, c2⟩ := HI1.out.2.cells
    clear hb1
    go_wp2_with fail
    clear c0 c1 c2
    refine (HY.out _).mono ?_; rintro e w2 ⟨rfl, hb2⟩
    have HI2 := Lib.hid (HI1.out.below hb2)
    obtain ⟨c0, c1, c2⟩ := HI2.out.1.cells
    obtain ⟨d0, d1, d2⟩ := HI2.out.2.cells
    have hz2 := bk_lt HI2.out.2.1
    have hz3 := bk_lt HI2.out.1.1
    clear hb2
    go_wp2_with fail
    refine calls_abs (fun V => In2 A B ⟨pP, cP, pW, cW, pC, cC⟩ ⟨qP, dP, qW, dW, qC, dC⟩ w.heap.size w V ∧ V.heap[w2.heap.size]? = some (.cells #[.slice qP B.nP dP, .slice pW A.nW cW, .slice qC B.nC dC] 26 (0, 0))) ⟨HI2.out.below ((Below.refl _ _).alloc (Nat.le_refl _) _), bk_new w2 _⟩ ?_
    clear c0 c1 c2 d0 d1 d2
    rintro V ⟨hV, hM⟩
    have HI2 := Lib.hid hV
    have HM2 := Lib.hid hM
    clear hV hM
    refine (HKA.out _ (by exact HI2.out.1.2.1)).mono ?_; rintro e w3 ⟨rfl, hb3⟩
    have HI3 := Lib.hid (HI2.out.below hb3)
    have HM3 := Lib.hid (bk_below HM2.out hb3)
    obtain ⟨c0, c1, c2⟩ := HI3.out.2.cells
    clear hb3
    go_wp2_with fail
    clear c0 c1 c2
    refine (HKB.out _ (by exact HI3.out.2.2.1)).mono ?_; rintro e w4 ⟨rfl, hb4⟩
    have HI4 := Lib.hid (HI3.out.below hb4)
    have HM4 := Lib.hid (bk_below HM3.out hb4)
    have d0 : w4.cell? ⟨w2.heap.size, 0, none⟩ = some (.slice qP B.nP dP) := (bk_cell HM4.out 0).trans rfl
    have d1 : w4.cell? ⟨w2.heap.size, 1, none⟩ = some (.slice pW A.nW cW) := (bk_cell HM4.out 1).trans rfl
    have d2 : w4.cell? ⟨w2.heap.size, 2, none⟩ = some (.slice qC B.nC dC) := (bk_cell HM4.out 2).trans rfl
    clear hb4
    go_wp2_with fail
    clear d0 d1 d2
    refine (HKC.out _ (by exact mixI HI4.out.1.2.1 HI4.out.2.2.1)).mono ?_; rintro e w5 ⟨rfl, hb5⟩
    have HI5 := Lib.hid (HI4.out.below hb5)
    have HM5 := Lib.hid (bk_below HM4.out hb5)
    clear hb5
    go_wp2_with fail
    refine (awake_any _).mono ?_; rintro e wz ⟨rfl, hbz⟩
    go_wp2
    go_ret
    exact ⟨rfl, bstep HI5.out.1.2.2 hbz⟩
  case pos =>
  have kc := ckE_ok hkC
  obtain ⟨o1, o2, o3⟩ := mix_own (A := A) hkB hkC p
  rw [kc] at HKC HTC
  rw [mix_turnW hkA hkC, mix_turnP hkA hkC] at HTC
  rw [o1, o2, o3] at HOC
  clear ka kb kc hkA hkB hkC o1 o2 o3
  generalize turnW A t = tw at *
  generalize turnP A t = tp at *
  generalize ownA B p = oa at *
  generalize ownB B p = ob at *
  generalize ownE B p = oe at *
  obtain ⟨pP, cP, pW, cW, pC, cC⟩ := la
  obtain ⟨qP, dP, qW, dW, qC, dC⟩ := lb
  unfold cfgV at *
  simp only [mixL] at *
  go_enter Try.func7, Try.ntmps7
  go_wp2_with fail
  refine (HX.out _).mono ?_; rintro e w1 ⟨rfl, hb1⟩
  have HI1 := Lib.hid (HI0.out.below hb1)
  obtain ⟨c0, c1, c2⟩ := HI1.out.2.cells
  clear hb1
  go_wp2_with fail
  clear c0 c1 c2
  refine (HY.out _).mono ?_; rintro e w2 ⟨rfl, hb2⟩
  have HI2 := Lib.hid (HI1.out.below hb2)
  obtain ⟨c0, c1, c2⟩ := HI2.out.1.cells
  obtain ⟨d0, d1, d2⟩ := HI2.out.2.cells
  have hz2 := bk_lt HI2.out.2.1
  have hz3 := bk_lt HI2.out.1.1
  clear hb2
  go_wp2_with fail
  refine calls_abs (fun V => In2 A B ⟨pP, cP, pW, cW, pC, cC⟩ ⟨qP, dP, qW, dW, qC, dC⟩ w.heap.size w V ∧ V.heap[w2.heap.size]? = some (.cells #[.slice qP B.nP dP, .slice pW A.nW cW, .slice qC B.nC dC] 26 (0, 0))) ⟨HI2.out.below ((Below.refl _ _).alloc (Nat.le_refl _) _), bk_new w2 _⟩ ?_
  clear c0 c1 c2 d0 d1 d2
  rintro V ⟨hV, hM⟩
  have HI2 := Lib.hid hV
  have HM2 := Lib.hid hM
  clear hV hM
  refine (HKA.out _ (by exact HI2.out.1.2.1)).mono ?_; rintro e w3 ⟨rfl, hb3⟩
  have HI3 := Lib.hid (HI2.out.below hb3)
  have HM3 := Lib.hid (bk_below HM2.out hb3)
  obtain ⟨c0, c1, c2⟩ := HI3.out.2.cells
  clear hb3
  go_wp2_with fail
  clear c0 c1 c2
  refine (HKB.out _ (by exact HI3.out.2.2.1)).mono ?_; rintro e w4 ⟨rfl, hb4⟩
  have HI4 := Lib.hid (HI3.out.below hb4)
  have HM4 := Lib.hid (bk_below HM3.out hb4)
  have d0 : w4.cell? ⟨w2.heap.size, 0, none⟩ = some (.slice qP B.nP dP) := (bk_cell HM4.out 0).trans rfl
  have d1 : w4.cell? ⟨w2.heap.size, 1, none⟩ = some (.slice pW A.nW cW) := (bk_cell HM4.out 1).trans rfl
  have d2 : w4.cell? ⟨w2.heap.size, 2, none⟩ = some (.slice qC B.nC dC) := (bk_cell HM4.out 2).trans rfl
  clear hb4
  go_wp2_with fail
  clear d0 d1 d2
  refine (HKC.out _ (by exact mixI HI4.out.1.2.1 HI4.out.2.2.1)).mono ?_; rintro e w5 ⟨rfl, hb5⟩
  have HI5 := Lib.hid (HI4.out.below hb5)
  have HM5 := Lib.hid (bk_below HM4.out hb5)
  clear hb5
  obtain ⟨c0, c1, c2⟩ := HI5.out.1.cells
  go_wp2_with fail
  clear c0 c1 c2
  refine (HTA.out _ (by exact HI5.out.1.2.1)).mono ?_; rintro e w6 ⟨rfl, hb6⟩
  have HI6 := Lib.hid (HI5.out.below hb6)
  have HM6 := Lib.hid (bk_below HM5.out hb6)
  have d0 : w6.cell? ⟨w2.heap.size, 0, none⟩ = some (.slice qP B.nP dP) := (bk_cell HM6.out 0).trans rfl
  have d1 : w6.cell? ⟨w2.heap.size, 1, none⟩ = some (.slice pW A.nW cW) := (bk_cell HM6.out 1).trans rfl
  have d2 : w6.cell? ⟨w2.heap.size, 2, none⟩ = some (.slice qC B.nC dC) := (bk_cell HM6.out 2).trans rfl
  clear hb6
  go_wp2_with fail
  clear d0 d1 d2
  refine (HTC.out _ (by exact mixI HI6.out.1.2.1 HI6.out.2.2.1)).mono ?_; rintro e w7 ⟨rfl, hb7⟩
  have HI7 := Lib.hid (HI6.out.below hb7)
  have HM7 := Lib.hid (bk_below HM6.out hb7)
  obtain ⟨c0, c1, c2⟩ := HI7.out.2.cells
  clear hb7
  go_wp2_with fail
  clear c0 c1 c2
  refine (HOB.out _ (by exact HI7.out.2.2.1)).mono ?_; rintro e w8 ⟨rfl, hb8⟩
  have HI8 := Lib.hid (HI7.out.below hb8)
  have HM8 := Lib.hid (bk_below HM7.out hb8)
  have d0 : w8.cell? ⟨w2.heap.size, 0, none⟩ = some (.slice qP B.nP dP) := (bk_cell HM8.out 0).trans rfl
  have d1 : w8.cell? ⟨w2.heap.size, 1, none⟩ = some (.slice pW A.nW cW) := (bk_cell HM8.out 1).trans rfl
  have d2 : w8.cell? ⟨w2.heap.size, 2, none⟩ = some (.slice qC B.nC dC) := (bk_cell HM8.out 2).trans rfl
  clear hb8
  go_wp2_with fail
  clear d0 d1 d2
  refine (HOC.out _ (by exact mixI HI8.out.1.2.1 HI8.out.2.2.1)).mono ?_; rintro e w9 ⟨rfl, hb9⟩
  have HI9 := Lib.hid (HI8.out.below hb9)
  clear hb9
  go_wp2_with fail
  refine (awake_any _).mono ?_; rintro e w10 ⟨rfl, hb10⟩
  go_wp2
  go_ret
  exact ⟨rfl, bstep HI9.out.1.2.2 hb10⟩
end Go.Proofs.Ytjbblocfdfjfmaa
