/- The laws PlanFrames and PlanTurn. -/
import Derived.Test.YtjbblocfdfjfmaaTwo
import Derived.Test.YtjbblocfdfjfmaaRTurn
namespace Go.Proofs.Ytjbblocfdfjfmaa
open Go.RowKit
set_option linter.unusedVariables false
set_option linter.unusedSimpArgs false
def Long (C : Cfg) : Prop := 100 < C.nP ∨ 100 < C.nW ∨ 100 < C.nC
theorem not_long {C : Cfg} (h : ¬ Long C) : Big C := by unfold Long at h; unfold Big; omega
theorem long_yes (C : Cfg) (ly : Lay) (w : World) (h : Long C) :
    Calls Try.prog 8 #[.agg (cfgV C ly)] w fun e w' => e = .returned (.bool true) ∧ Below w.heap.size w w' := by
  obtain ⟨pP, cP, pW, cW, pC, cC⟩ := ly
  unfold cfgV Long at *
  simp only at *
  have h' : (100 : Int) < C.nP ∨ (¬ (100 : Int) < C.nP ∧ (100 : Int) < C.nW) ∨ (¬ (100 : Int) < C.nP ∧ ¬ (100 : Int) < C.nW ∧ (100 : Int) < C.nC) := by omega
  clear h
  rcases h' with k1 | ⟨k1, k2⟩ | ⟨k1, k2, k3⟩
  all_goals
    go_enter Try.func8, Try.ntmps8
    go_wp2
    go_ret
    exact ⟨by simp [*], by go_grown⟩
theorem long_no (C : Cfg) (ly : Lay) (w : World) (h : ¬ Long C) :
    Calls Try.prog 8 #[.agg (cfgV C ly)] w fun e w' => e = .returned (.bool false) ∧ Below w.heap.size w w' := by
  obtain ⟨pP, cP, pW, cW, pC, cC⟩ := ly
  unfold cfgV Long at *
  simp only at *
  have k1 : ¬ (100 : Int) < C.nP := by omega
  have k2 : ¬ (100 : Int) < C.nW := by omega
  have k3 : ¬ (100 : Int) < C.nC := by omega
  clear h
  go_enter Try.func8, Try.ntmps8
  go_wp2
  go_ret
  exact ⟨by first | (simp; done) | (simp; omega), by go_grown⟩
/-- what is known of a configuration that lies in a variable of the law's -/
def InV (C : Cfg) (ly : Lay) (n : Nat) (w V : World) : Prop := V.heap[n]? = some (.cells (cfgV C ly) 26 (0, 0)) ∧ IsC V C ly ∧ Below w.heap.size w V
theorem InV.below {C : Cfg} {ly : Lay} {n : Nat} {w V V' : World} (h : InV C ly n w V) (hb : Below V.heap.size V V') : InV C ly n w V' := ⟨bk_below h.1 hb, h.2.1.below hb, bstep h.2.2 hb⟩
theorem InV.cells {C : Cfg} {pP pW pC : Option Addr} {cP cW cC n : Nat} {w V : World} (h : InV C ⟨pP, cP, pW, cW, pC, cC⟩ n w V) : V.cell? ⟨n, 0, none⟩ = some (.slice pP C.nP cP) ∧ V.cell? ⟨n, 1, none⟩ = some (.slice pW C.nW cW) ∧ V.cell? ⟨n, 2, none⟩ = some (.slice pC C.nC cC) :=
  ⟨(bk_cell h.1 0).trans rfl, (bk_cell h.1 1).trans rfl, (bk_cell h.1 2).trans rfl⟩
set_option maxHeartbeats 4000000 in
theorem PlanFrames_any (C : Cfg) (ly : Lay) (p : Int) (w : World) (hI : IsC w C ly) :
    Calls Try.prog 5 #[.agg (cfgV C ly), .int .i64 p] w fun e w' => e = .returned (.bool true) ∧ Below w.heap.size w w' := by
  by_cases hL : Long C
  · have HL := Lib.hid fun (W : World) => long_yes C ly W hL
    clear hL
    obtain ⟨pP, cP, pW, cW, pC, cC⟩ := ly
    unfold cfgV at *
    simp only at *
    go_enter Try.func5, Try.ntmps5
    go_wp2_with fail
    refine (HL.out _).mono ?_; rintro e w1 ⟨rfl, hb1⟩
    have HB1 := Lib.hid (bstep (a := w) (by go_grown) hb1)
    clear hb1
    go_wp2_with fail
    refine (awake_any _).mono ?_; rintro e w2 ⟨rfl, hb2⟩
    go_wp2
    go_ret
    exact ⟨rfl, bstep HB1.out hb2⟩
  · have hN := not_long hL
    have HL := Lib.hid fun (W : World) => long_no C ly W hL
    have H1 := Lib.hid fun (W : World) (h : InV C ly w.heap.size w W) => own_any C ly p W h.2.1 hN
    have H2 := Lib.hid fun (W : World) (h : InV C ly w.heap.size w W) => rown_any C ly p W h.2.1 hN
    have H3 := Lib.hid fun (W : World) (h : InV C ly w.heap.size w W) => traps_any C ly p W h.2.1 hN
    have H4 := Lib.hid fun (W : World) (h : InV C ly w.heap.size w W) => rtraps_any C ly p W h.2.1 hN
    have H5 := Lib.hid fun (W : World) (h : InV C ly w.heap.size w W) => chan_any C ly p W h.2.1 hN
    have H6 := Lib.hid fun (W : World) (h : InV C ly w.heap.size w W) => rchan_any C ly p W h.2.1 hN
    have HI := Lib.hid (show InV C ly w.heap.size w (w.alloc (.cells (cfgV C ly) 26)) from ⟨bk_new _ _, hI.below ((Below.refl _ _).alloc (Nat.le_refl _) _), (Below.refl _ _).alloc (Nat.le_refl _) _⟩)
    clear hL hN hI
    obtain ⟨pP, cP, pW, cW, pC, cC⟩ := ly
    unfold cfgV at *
    simp only at *
    generalize ownA C p = oa at *
    generalize ownB C p = ob at *
    generalize ownE C p = oe at *
    generalize trA C p = ta at *
    generalize trB C p = tb at *
    generalize chA C p = ca at *
    generalize chB C p = cb at *
    generalize chE C p = ce at *
    go_enter Try.func5, Try.ntmps5
    go_wp2_with fail
    refine (HL.out _).mono ?_; rintro e w1 ⟨rfl, hb1⟩
    have HI1 := Lib.hid (HI.out.below hb1)
    obtain ⟨c0, c1, c2⟩ := HI1.out.cells
    clear hb1
    go_wp2_with fail
    clear c0 c1 c2
    refine (H1.out _ (by exact HI1.out)).mono ?_; rintro e w2 ⟨rfl, hb2⟩
    have HI2 := Lib.hid (HI1.out.below hb2)
    obtain ⟨c0, c1, c2⟩ := HI2.out.cells
    clear hb2
    go_wp2_with fail
    clear c0 c1 c2
    refine (H2.out _ (by exact HI2.out)).mono ?_; rintro e w3 ⟨rfl, hb3⟩
    have HI3 := Lib.hid (HI2.out.below hb3)
    obtain ⟨c0, c1, c2⟩ := HI3.out.cells
    clear hb3
    go_wp2_with fail
    clear c0 c1 c2
    refine (H3.out _ (by exact HI3.out)).mono ?_; rintro e w4 ⟨rfl, hb4⟩
    have HI4 := Lib.hid (HI3.out.below hb4)
    obtain ⟨c0, c1, c2⟩ := HI4.out.cells
    clear hb4
    go_wp2_with fail
    clear c0 c1 c2
    refine (H4.out _ (by exact HI4.out)).mono ?_; rintro e w5 ⟨rfl, hb5⟩
    have HI5 := Lib.hid (HI4.out.below hb5)
    obtain ⟨c0, c1, c2⟩ := HI5.out.cells
    clear hb5
    go_wp2_with fail
    clear c0 c1 c2
    refine (H5.out _ (by exact HI5.out)).mono ?_; rintro e w6 ⟨rfl, hb6⟩
    have HI6 := Lib.hid (HI5.out.below hb6)
    obtain ⟨c0, c1, c2⟩ := HI6.out.cells
    clear hb6
    go_wp2_with fail
    clear c0 c1 c2
    refine (H6.out _ (by exact HI6.out)).mono ?_; rintro e w7 ⟨rfl, hb7⟩
    have HI7 := Lib.hid (HI6.out.below hb7)
    clear hb7
    go_wp2_with fail
    refine (awake_any _).mono ?_; rintro e w8 ⟨rfl, hb8⟩
    go_wp2
    go_ret
    exact ⟨rfl, bstep HI7.out.2.2 hb8⟩
set_option maxHeartbeats 4000000 in
theorem PlanTurn_any (C : Cfg) (ly : Lay) (t : Int) (w : World) (hI : IsC w C ly) (h0 : 0 ≤ t) (h1 : t < 18446744073709551616) :
    Calls Try.prog 3 #[.agg (cfgV C ly), .int .u64 t] w fun e w' => e = .returned (.bool true) ∧ Below w.heap.size w w' := by
  by_cases hL : Long C
  · have HL := Lib.hid fun (W : World) => long_yes C ly W hL
    clear hL
    obtain ⟨pP, cP, pW, cW, pC, cC⟩ := ly
    unfold cfgV at *
    simp only at *
    go_enter Try.func3, Try.ntmps3
    go_wp2_with fail
    refine (HL.out _).mono ?_; rintro e w1 ⟨rfl, hb1⟩
    have HB1 := Lib.hid (bstep (a := w) (by go_grown) hb1)
    clear hb1
    go_wp2_with fail
    refine (awake_any _).mono ?_; rintro e w2 ⟨rfl, hb2⟩
    go_wp2
    go_ret
    exact ⟨rfl, bstep HB1.out hb2⟩
  have hN := not_long hL
  have HL := Lib.hid fun (W : World) => long_no C ly W hL
  have H1 := Lib.hid fun (W : World) (h : InV C ly w.heap.size w W) => turn_any C ly t W h.2.1 hN h0 h1
  have H2 := Lib.hid fun (W : World) (h : InV C ly w.heap.size w W) => rturn_any C ly t W h.2.1 hN h0 h1
  have H3 := Lib.hid fun (W : World) (h : InV C ly w.heap.size w W) => major_any C ly W h.2.1 hN
  have H4 := Lib.hid fun (W : World) (h : InV C ly w.heap.size w W) => rcheck_any C ly W h.2.1 hN
  have H5 := Lib.hid fun (W : World) (h : InV C ly w.heap.size w W) (hk : NumOk C) => row_any C ly W h.2.1 hk
  have HI := Lib.hid (show InV C ly w.heap.size w (w.alloc (.cells (cfgV C ly) 26)) from ⟨bk_new _ _, hI.below ((Below.refl _ _).alloc (Nat.le_refl _) _), (Below.refl _ _).alloc (Nat.le_refl _) _⟩)
  clear hL hN hI
  obtain ⟨pP, cP, pW, cW, pC, cC⟩ := ly
  unfold cfgV at *
  simp only at *
  generalize turnP C t = tp at *
  generalize turnW C t = tw at *
  by_cases hok : CkOk C
  case neg =>
    have hne := ckE_ne hok
    rw [majR_bad hok] at H3
    clear hok H5
    generalize ckE C = er at *
    go_enter Try.func3, Try.ntmps3
    go_wp2_with fail
    refine (HL.out _).mono ?_; rintro e w1 ⟨rfl, hb1⟩
    have HI1 := Lib.hid (HI.out.below hb1)
    obtain ⟨c0, c1, c2⟩ := HI1.out.cells
    clear hb1
    go_wp2_with fail
    clear c0 c1 c2
    refine (H1.out _ (by exact HI1.out)).mono ?_; rintro e w2 ⟨rfl, hb2⟩
    have HI2 := Lib.hid (HI1.out.below hb2)
    obtain ⟨c0, c1, c2⟩ := HI2.out.cells
    clear hb2
    go_wp2_with fail
    clear c0 c1 c2
    refine (H2.out _ (by exact HI2.out)).mono ?_; rintro e w3 ⟨rfl, hb3⟩
    have HI3 := Lib.hid (HI2.out.below hb3)
    obtain ⟨c0, c1, c2⟩ := HI3.out.cells
    clear hb3
    go_wp2_with fail
    clear c0 c1 c2
    refine (H3.out _ (by exact HI3.out)).mono ?_; rintro e w4 ⟨rfl, hb4⟩
    have HI4 := Lib.hid (HI3.out.below hb4)
    obtain ⟨c0, c1, c2⟩ := HI4.out.cells
    clear hb4
    go_wp2_with fail
    clear c0 c1 c2
    refine (H4.out _ (by exact HI4.out)).mono ?_; rintro e w5 ⟨rfl, hb5⟩
    have HI5 := Lib.hid (HI4.out.below hb5)
    clear hb5
    go_wp2_with fail
    refine (awake_any _).mono ?_; rintro e w8 ⟨rfl, hb8⟩
    go_wp2
    go_ret
    exact ⟨rfl, bstep HI5.out.2.2 hb8⟩
  case pos =>
    have hlr := rowTo_length hok.1.ticks C.nW (Nat.le_refl _)
    obtain ⟨m, hm⟩ : ∃ m : Nat, (rowL C).length = m := ⟨_, rfl⟩
    have hmt : majT C = (m : Int) := by rw [← hm]; exact hlr.symm
    have HOK := Lib.hid hok.1
    have HLN := Lib.hid (show (ints (rowL C)).length = m by rw [ints_length]; exact hm)
    rw [majR_ok hok, ckE_ok hok, hmt] at H3
    rw [ckE_ok hok] at H1 H2 H4
    clear hok hlr hmt hm
    go_enter Try.func3, Try.ntmps3
    go_wp2_with fail
    refine (HL.out _).mono ?_; rintro e w1 ⟨rfl, hb1⟩
    have HI1 := Lib.hid (HI.out.below hb1)
    obtain ⟨c0, c1, c2⟩ := HI1.out.cells
    clear hb1
    go_wp2_with fail
    clear c0 c1 c2
    refine (H1.out _ (by exact HI1.out)).mono ?_; rintro e w2 ⟨rfl, hb2⟩
    have HI2 := Lib.hid (HI1.out.below hb2)
    obtain ⟨c0, c1, c2⟩ := HI2.out.cells
    clear hb2
    go_wp2_with fail
    clear c0 c1 c2
    refine (H2.out _ (by exact HI2.out)).mono ?_; rintro e w3 ⟨rfl, hb3⟩
    have HI3 := Lib.hid (HI2.out.below hb3)
    obtain ⟨c0, c1, c2⟩ := HI3.out.cells
    clear hb3
    go_wp2_with fail
    clear c0 c1 c2
    refine (H3.out _ (by exact HI3.out)).mono ?_; rintro e w4 ⟨rfl, hb4⟩
    have HI4 := Lib.hid (HI3.out.below hb4)
    obtain ⟨c0, c1, c2⟩ := HI4.out.cells
    clear hb4
    go_wp2_with fail
    clear c0 c1 c2
    refine (H4.out _ (by exact HI4.out)).mono ?_; rintro e w5 ⟨rfl, hb5⟩
    have HI5 := Lib.hid (HI4.out.below hb5)
    obtain ⟨c0, c1, c2⟩ := HI5.out.cells
    clear hb5
    go_wp2_with fail
    clear c0 c1 c2
    refine (H5.out _ (by exact HI5.out) HOK.out).mono ?_; rintro e w6 ⟨v, rfl, ho6, hb6⟩
    have HI6 := Lib.hid (HI5.out.below hb6)
    obtain ⟨p6, c6, rfl, _, _⟩ := own_sl ho6
    rw [HLN.out]
    clear hb6 ho6
    go_wp2_with fail
    refine (awake_any _).mono ?_; rintro e w8 ⟨rfl, hb8⟩
    go_wp2
    go_ret
    exact ⟨rfl, bstep HI6.out.2.2 hb8⟩
end Go.Proofs.Ytjbblocfdfjfmaa
