/- The law SchedRound. -/
import Derived.Test.YtlmgkdilidgkgaaLTwo
import Derived.Test.YtlmgkdilidgkgaaCnt
namespace Go.Proofs.Ytlmgkdilidgkgaa
open Go.RowKit
set_option linter.unusedVariables false
set_option linter.unusedSimpArgs false
set_option maxRecDepth 20000 in
set_option maxHeartbeats 8000000 in
theorem round_out (C : Cfg) (ly : Lay) (n : Int) (w : World) (hI : IsC w C ly) (h : Long C ∨ ¬ CkOk C ∨ 500 < n) :
    Calls Try.prog 5 #[.agg (cfgV C ly), .int .i64 n] w fun e w' => e = .returned (.bool true) ∧ Below w.heap.size w w' := by
  have HI := Lib.hid (show InV C ly w.heap.size w (w.alloc (.cells (cfgV C ly) 26)) from ⟨bk_new _ _, hI.below ((Below.refl _ _).alloc (Nat.le_refl _) _), (Below.refl _ _).alloc (Nat.le_refl _) _⟩)
  by_cases hL : Long C
  · have HL := Lib.hid fun (W : World) => long_yes C ly W hL
    clear hL hI h
    obtain ⟨pP, cP, pW, cW, pC, cC⟩ := ly
    unfold cfgV at *
    simp only at *
    go_enter Try.func5, Try.ntmps5
    go_wp2_with fail
    refine (HL.out _).mono ?_; rintro e w1 ⟨rfl, hb1⟩
    have HB1 := Lib.hid (bstep (a := w) (by go_grown) hb1)
    clear hb1
    go_wp2_with fail
    refine (awake_any _).mono ?_; rintro e w2 ⟨rfl, hb2⟩
    go_wp2
    go_ret
    exact ⟨rfl, bstep HB1.out hb2⟩
  have hN := not_long hL
  have HL := Lib.hid fun (W : World) => long_no C ly W hL
  have HK := Lib.hid fun (W : World) (h : InV C ly w.heap.size w W) => check_any C ly W h.2.1 hN
  by_cases hok : CkOk C
  case neg =>
    have ka := ckE_ne hok
    have ka2 := ckE_bne hok
    clear hok hL hI hN h
    generalize ckE C = er at *
    obtain ⟨pP, cP, pW, cW, pC, cC⟩ := ly
    unfold cfgV at *
    simp only at *
    go_enter Try.func5, Try.ntmps5
    go_wp2_with fail
    refine (HL.out _).mono ?_; rintro e w1 ⟨rfl, hb1⟩
    have HI1 := Lib.hid (HI.out.below hb1)
    obtain ⟨c0, c1, c2⟩ := HI1.out.cells
    clear hb1
    go_wp2_with fail
    clear c0 c1 c2
    refine (HK.out _ (by exact HI1.out)).mono ?_; rintro e w2 ⟨rfl, hb2⟩
    have HI2 := Lib.hid (HI1.out.below hb2)
    clear hb2
    go_wp2_with fail
    refine (awake_any _).mono ?_; rintro e w2 ⟨rfl, hb2⟩
    go_wp2
    go_ret
    exact ⟨rfl, bstep HI2.out.2.2 hb2⟩
  case pos =>
    have k2 : (500 : Int) < n := by
      rcases h with h | h | h
      · exact absurd h hL
      · exact absurd hok h
      · exact h
    rw [ckE_ok hok] at HK
    clear hok hL hI hN h
    obtain ⟨pP, cP, pW, cW, pC, cC⟩ := ly
    unfold cfgV at *
    simp only at *
    all_goals
      go_enter Try.func5, Try.ntmps5
      go_wp2_with fail
      refine (HL.out _).mono ?_; rintro e w1 ⟨rfl, hb1⟩
      have HI1 := Lib.hid (HI.out.below hb1)
      obtain ⟨c0, c1, c2⟩ := HI1.out.cells
      clear hb1
      go_wp2_with fail
      clear c0 c1 c2
      refine (HK.out _ (by exact HI1.out)).mono ?_; rintro e w2 ⟨rfl, hb2⟩
      have HI2 := Lib.hid (HI1.out.below hb2)
      clear hb2
      go_wp2_with fail
      refine (awake_any _).mono ?_; rintro e w2 ⟨rfl, hb2⟩
      go_wp2
      go_ret
      exact ⟨rfl, bstep HI2.out.2.2 hb2⟩
end Go.Proofs.Ytlmgkdilidgkgaa
