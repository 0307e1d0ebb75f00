/- Helper text of this seat (LPut): contracts of functions of the given program and of its references, each told by its theorem. -/
import Derived.Test.YtjgelbcibjaehaaNew
namespace Go.Proofs.Ytjgelbcibjaehaa
open Go.RowKit
set_option linter.unusedVariables false
set_option linter.unusedSimpArgs false
theorem OctetPut_any (n v : Int) (h0 : 0 ≤ n) (h1 : n < 4294967296) (w : World) :
    Calls Try.prog 3 #[.int .u32 n, .int .i64 v] w fun e w' => e = .returned (.bool true) ∧ Below w.heap.size w w' := by
  go_enter Try.func3, Try.ntmps3
  go_wp2_with fail
  refine (put_any n v h0 h1 _).mono ?_; rintro e w1 ⟨rfl, b1⟩
  go_wp2_with fail
  refine (rput_any n v h0 h1 _).mono ?_; rintro e w2 ⟨rfl, b2⟩
  go_wp2_with fail
  refine (awake_any _).mono ?_; rintro e w3 ⟨rfl, b3⟩
  go_wp2
  go_returns
  exact ⟨by simp, bstep (bstep b1 b2) b3⟩
end Go.Proofs.Ytjgelbcibjaehaa
