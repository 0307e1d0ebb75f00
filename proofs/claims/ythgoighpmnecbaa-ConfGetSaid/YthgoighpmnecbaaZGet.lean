/- Helper text of this seat (ZGet): contracts of functions of the given program and of its references, and the laws' plain parts, each told by its theorem. Conditions: as each theorem names them. -/
import Derived.Test.YthgoighpmnecbaaZG
namespace Go.Proofs.Ythgoighpmnecbaa
open Go.RowKit
set_option linter.unusedVariables false
set_option linter.unusedSimpArgs false
set_option maxHeartbeats 2000000 in
theorem ConfGet_any (s : ByteArray) (w : World) (hs : s.size ≤ 140737488351232) :
    Calls Try.prog 4 #[.string s] w fun e w' => e = .returned (.bool true) ∧ Below w.heap.size w w' := by
  by_cases hl : 2000 < s.size
  · have hl' : (2000 : Int) < s.size := by omega
    clear hl
    go_enter Try.func4, Try.ntmps4
    go_wp2_with fail
    refine (awake_any _).mono ?_; rintro e w1 ⟨rfl, b1⟩
    go_wp2
    go_ret
    exact ⟨rfl, b1⟩
  · have hl' : ¬ (2000 : Int) < s.size := by omega
    have HG := Lib.hid fun (W : World) => getv (w := W) s hs
    have HR := Lib.hid fun (W : World) => rgetv (w := W) s (by omega)
    have hsm := fun (p q r p' q' r' : Option Addr) (c d k c' d' k' : Nat) (W : World) (h : IsC W (gtC s) ⟨p, c, q, d, r, k⟩) (h' : IsC W (gtC s) ⟨p', c', q', d', r', k'⟩) => rsamev h h' (gtC_hN s)
    simp only [same_refl] at hsm
    have HS := Lib.hid hsm
    clear hl hs hsm
    generalize gtC s = G at *
    generalize gtE s = E at *
    have hE1 : (E == E) = true := by simp
    go_enter Try.func4, Try.ntmps4
    go_wp2_with fail
    refine (HG.out _).mono ?_; rintro e w1 ⟨pP, cP, pW, cW, pC, cC, rfl, h1, b1⟩
    have HV1 := Lib.hid (CV.new h1)
    have HB1 := Lib.hid (b1.alloc b1.size (.cells #[.slice pP G.nP cP, .slice pW G.nW cW, .slice pC G.nC cC] 26))
    clear h1 b1
    go_wp2_with fail
    refine (HR.out _).mono ?_; rintro e w2 ⟨qP, dP, qW, dW, qC, dC, rfl, h2, b2⟩
    have HV2 := Lib.hid (HV1.out.below b2)
    have HB2 := Lib.hid (bstep HB1.out b2)
    have HJ2 := Lib.hid h2
    obtain ⟨y0, y1, y2, y3⟩ := HV2.out.cells
    clear h2 b2
    go_wp2_with fail
    refine (HS.out _ _ _ _ _ _ _ _ _ _ _ _ _ (HV2.out.alloc _).i (CV.new HJ2.out).i).mono ?_; rintro e w3 ⟨rfl, b3⟩
    have HB3 := Lib.hid (bstep (HB2.out.alloc HB2.out.size _) b3)
    clear b3
    go_wp2_with fail
    refine (awake_any _).mono ?_; rintro e w4 ⟨rfl, b4⟩
    go_wp2
    go_ret
    exact ⟨by simp, bstep HB3.out b4⟩
end Go.Proofs.Ythgoighpmnecbaa
