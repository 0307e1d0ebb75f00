/- Helper text of this seat (ZPut): contracts of functions of the given program and of its references, and the laws' plain parts, each told by its theorem. Conditions: as each theorem names them. -/
import Derived.Test.YthgoighpmnecbaaZG
namespace Go.Proofs.Ythgoighpmnecbaa
open Go.RowKit
set_option linter.unusedVariables false
set_option linter.unusedSimpArgs false
theorem short_hN {C : Cfg} (h : longB C = false) : C.nP ≤ 1000000 ∧ C.nW ≤ 1000000 ∧ C.nC ≤ 1000000 := by
  simp [longB] at h
  omega
set_option maxHeartbeats 2000000 in
theorem ConfPut_any (C D : Cfg) (l k : Lay) (w : World) (hI : IsC w C l) (hJ : IsC w D k) :
    Calls Try.prog 3 #[.agg (cfgV C l), .agg (cfgV D k)] w fun e w' => e = .returned (.bool true) ∧ Below w.heap.size w w' := by
  obtain ⟨pP, cP, pW, cW, pC, cC⟩ := l
  obtain ⟨qP, dP, qW, dW, qC, dC⟩ := k
  have HI := Lib.hid hI
  have HJ := Lib.hid hJ
  have HLC := Lib.hid fun (W : World) => longv (C := C) (p := pP) (q := pW) (r := pC) (c := cP) (d := cW) (k := cC) (w := W)
  have HLD := Lib.hid fun (W : World) => longv (C := D) (p := qP) (q := qW) (r := qC) (c := dP) (d := dW) (k := dC) (w := W)
  have HU := Lib.hid (show cfgV C ⟨pP, cP, pW, cW, pC, cC⟩ = #[.slice pP C.nP cP, .slice pW C.nW cW, .slice pC C.nC cC] from rfl)
  have HU2 := Lib.hid (show cfgV D ⟨qP, dP, qW, dW, qC, dC⟩ = #[.slice qP D.nP dP, .slice qW D.nW dW, .slice qC D.nC dC] from rfl)
  rw [HU.out, HU2.out]
  clear hI hJ HU HU2
  cases hlC : longB C with
  | true =>
    rw [hlC] at HLC
    clear hlC
    go_enter Try.func3, Try.ntmps3
    go_wp2_with fail
    refine (HLC.out _).mono ?_; rintro e w1 ⟨rfl, b1⟩
    have HB1 := Lib.hid (bstep (a := w) (by go_grown) b1)
    clear b1
    go_wp2_with fail
    refine (awake_any _).mono ?_; rintro e w2 ⟨rfl, b2⟩
    go_wp2
    go_ret
    exact ⟨rfl, bstep HB1.out b2⟩
  | false =>
    have hNC := short_hN hlC
    rw [hlC] at HLC
    clear hlC
    cases hlD : longB D with
    | true =>
      rw [hlD] at HLD
      clear hlD
      go_enter Try.func3, Try.ntmps3
      go_wp2_with fail
      refine (HLC.out _).mono ?_; rintro e w1 ⟨rfl, b1⟩
      have HB1 := Lib.hid (bstep (a := w) (by go_grown) b1)
      have HV := Lib.hid (show CV w1 (w.heap.size + 1) D qP dP qW dW qC dC from ⟨bk_below (by have := bk_new (w.alloc (.cells #[.slice pP C.nP cP, .slice pW C.nW cW, .slice pC C.nC cC] 26)) (.cells #[.slice qP D.nP dP, .slice qW D.nW dW, .slice qC D.nC dC] 26); rwa [World.size_alloc] at this) b1, HJ.out.below HB1.out⟩)
      clear b1
      obtain ⟨y0, y1, y2, y3⟩ := HV.out.cells
      go_wp2_with fail
      refine (HLD.out _).mono ?_; rintro e w2 ⟨rfl, b2⟩
      have HB2 := Lib.hid (bstep HB1.out b2)
      clear b2 y0 y1 y2 y3
      go_wp2_with fail
      refine (awake_any _).mono ?_; rintro e w3 ⟨rfl, b3⟩
      go_wp2
      go_ret
      exact ⟨rfl, bstep HB2.out b3⟩
    | false =>
      rw [hlD] at HLD
      clear hlD
      have HP := Lib.hid fun (W : World) (h : IsC W C ⟨pP, cP, pW, cW, pC, cC⟩) => putv h hNC
      have HRP := Lib.hid fun (W : World) (h : IsC W C ⟨pP, cP, pW, cW, pC, cC⟩) => rputv h hNC
      have HK := Lib.hid fun (W : World) (h : IsC W C ⟨pP, cP, pW, cW, pC, cC⟩) => checkv h hNC
      have HRK := Lib.hid fun (W : World) (h : IsC W C ⟨pP, cP, pW, cW, pC, cC⟩) => rcheckv h hNC
      have HF := Lib.hid fun (W : World) (h : IsC W C ⟨pP, cP, pW, cW, pC, cC⟩) => framesv h hNC
      have HRF := Lib.hid fun (W : World) (h : IsC W C ⟨pP, cP, pW, cW, pC, cC⟩) => rframesv h hNC
      have HS := Lib.hid fun (W : World) (h : IsC W C ⟨pP, cP, pW, cW, pC, cC⟩) (h' : IsC W D ⟨qP, dP, qW, dW, qC, dC⟩) => samev h h' hNC
      have HRS := Lib.hid fun (W : World) (h : IsC W C ⟨pP, cP, pW, cW, pC, cC⟩) (h' : IsC W D ⟨qP, dP, qW, dW, qC, dC⟩) => rsamev h h' hNC
      clear hNC
      generalize putS C = S at *
      generalize ckE C = E at *
      generalize frE C = F at *
      generalize sameB C D = X at *
      have x2 : (S.toList == S.toList) = true := by simp
      have x3 : (E == E) = true := by simp
      have x4 : (F == F) = true := by simp
      have x5 : (X == X) = true := by simp
      go_enter Try.func3, Try.ntmps3
      go_wp2_with fail
      refine (HLC.out _).mono ?_; rintro e w1 ⟨rfl, b1⟩
      have HB1 := Lib.hid (bstep (a := w) (by go_grown) b1)
      have HVD := Lib.hid (show CV w1 (w.heap.size + 1) D qP dP qW dW qC dC from ⟨bk_below (by have := bk_new (w.alloc (.cells #[.slice pP C.nP cP, .slice pW C.nW cW, .slice pC C.nC cC] 26)) (.cells #[.slice qP D.nP dP, .slice qW D.nW dW, .slice qC D.nC dC] 26); rwa [World.size_alloc] at this) b1, HJ.out.below HB1.out⟩)
      have HVC := Lib.hid (show CV w1 w.heap.size C pP cP pW cW pC cC from ⟨bk_below (bk_alloc (bk_new w (.cells #[.slice pP C.nP cP, .slice pW C.nW cW, .slice pC C.nC cC] 26)) _) b1, HI.out.below HB1.out⟩)
      clear b1
      obtain ⟨y0, y1, y2, y3⟩ := HVD.out.cells
      go_wp2_with fail
      refine (HLD.out _).mono ?_; rintro e w2 ⟨rfl, b2⟩
      have HB2 := Lib.hid (bstep HB1.out b2)
      have HVD2 := Lib.hid (HVD.out.below b2)
      have HVC2 := Lib.hid (HVC.out.below b2)
      clear b2 y0 y1 y2 y3 HVD HVC HB1
      obtain ⟨y0, y1, y2, y3⟩ := HVC2.out.cells
      go_wp2_with fail
      refine (HP.out _ HVC2.out.i).mono ?_; rintro e w3 ⟨rfl, b3⟩
      have HB3 := Lib.hid (bstep HB2.out b3)
      have HVD3 := Lib.hid (HVD2.out.below b3)
      have HVC3 := Lib.hid (HVC2.out.below b3)
      clear b3 y0 y1 y2 y3 HVD2 HVC2 HB2
      obtain ⟨y0, y1, y2, y3⟩ := HVC3.out.cells
      go_wp2_with fail
      refine (HRP.out _ HVC3.out.i).mono ?_; rintro e w4 ⟨rfl, b4⟩
      have hcd := (HVD3.out.below b4).drew
      have hcc := (HVC3.out.below b4).drew
      have hb4 : Below w.heap.size w w4.drew := bdrew (bstep HB3.out b4)
      clear b4 y0 y1 y2 y3 HVD3 HVC3 HB3
      obtain ⟨y0, y1, y2, _⟩ := hcc.cells
      obtain ⟨z0, z1, z2, _⟩ := hcd.cells
      have hic := hcc.i
      have hid := hcd.i
      clear hcc hcd
      go_wp2_with fail
      go_region_held3 (fun W' => W'.cell? ⟨w.heap.size, 0, none⟩ = some (.slice pP C.nP cP) ∧ W'.cell? ⟨w.heap.size, 1, none⟩ = some (.slice pW C.nW cW) ∧ W'.cell? ⟨w.heap.size, 2, none⟩ = some (.slice pC C.nC cC) ∧ W'.cell? ⟨w.heap.size + 1, 0, none⟩ = some (.slice qP D.nP dP) ∧ W'.cell? ⟨w.heap.size + 1, 1, none⟩ = some (.slice qW D.nW dW) ∧ W'.cell? ⟨w.heap.size + 1, 2, none⟩ = some (.slice qC D.nC dC) ∧ IsC W' C ⟨pP, cP, pW, cW, pC, cC⟩ ∧ IsC W' D ⟨qP, dP, qW, dW, qC, dC⟩ ∧ Below w.heap.size w W')
        (first | ((try go_split_ands); (repeat' apply And.intro) <;> first | assumption | with_reducible first | exact keepc hb (by assumption) | exact IsC.below (by assumption) hb | exact bstep (by assumption) hb | trace_state))
        (first
          | (go_at_call 13; (try go_split_ands); refine (HK.out _ (by assumption)).mono ?_; rintro e1 w5 ⟨rfl, hb⟩)
          | (go_at_call 14; (try go_split_ands); refine (HRK.out _ (by assumption)).mono ?_; rintro e1 w5 ⟨rfl, hb⟩)
          | (go_at_call 15; (try go_split_ands); refine (HF.out _ (by assumption)).mono ?_; rintro e1 w5 ⟨rfl, hb⟩)
          | (go_at_call 16; (try go_split_ands); refine (HRF.out _ (by assumption)).mono ?_; rintro e1 w5 ⟨rfl, hb⟩)
          | (go_at_call 17; (try go_split_ands); refine (HS.out _ (by assumption) (by assumption)).mono ?_; rintro e1 w5 ⟨rfl, hb⟩)
          | (go_at_call 18; (try go_split_ands); refine (HRS.out _ (by assumption) (by assumption)).mono ?_; rintro e1 w5 ⟨rfl, hb⟩)
          | (go_at_call 10; refine (awake_any _).mono ?_; rintro e1 w5 ⟨rfl, hb⟩))
      all_goals
        (try go_split_ands)
        go_wp2
        go_ret
        exact ⟨by simp, by assumption⟩
end Go.Proofs.Ythgoighpmnecbaa
