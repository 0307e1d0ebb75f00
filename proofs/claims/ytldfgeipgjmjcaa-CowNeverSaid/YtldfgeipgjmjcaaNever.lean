/- Helper text of this seat (Never): contracts of functions of the given program and of its references, each told by its theorem. -/
import Derived.Test.YtldfgeipgjmjcaaNevA
import Derived.Test.YtldfgeipgjmjcaaNevB
import Derived.Test.YtldfgeipgjmjcaaNevC
namespace Go.Proofs.Ytldfgeipgjmjcaa
open Go.RowKit
set_option linter.unusedVariables false
set_option linter.unusedSimpArgs false
theorem CowNever_any (a b c : Bool) (n k : Int) (x : Bool) (w : World) :
    Calls Try.prog 6 #[.agg #[.bool a, .bool b, .bool c, .int .i64 n], .int .i64 k, .bool x] w fun e w' => e = .returned (.bool true) ∧ Below w.heap.size w w' := by
  cases h : fin a b c n 1
  · exact never_no _ _ _ _ _ _ _ h
  · obtain ⟨rfl, hbc, _⟩ := fin_a h
    obtain ⟨h1, h2⟩ := fin_n h
    rcases (show k < 1 ∨ k = 1 ∨ 1 < k by omega) with hk | rfl | hk
    · cases b <;> cases c <;> cases x
      · exact never_ff_lo_f _ _ _ h1 h2 hk
      · exact never_ff_lo_t _ _ _ h1 h2 hk
      · exact never_ft_lo_f _ _ _ h1 h2 hk
      · exact never_ft_lo_t _ _ _ h1 h2 hk
      · exact never_tf_lo_f _ _ _ h1 h2 hk
      · exact never_tf_lo_t _ _ _ h1 h2 hk
      · cases hbc
      · cases hbc
    · cases b <;> cases c <;> cases x
      · exact never_ff_one_f _ _ h1 h2
      · exact never_ff_one_t _ _ h1 h2
      · exact never_ft_one_f _ _ h1 h2
      · exact never_ft_one_t _ _ h1 h2
      · exact never_tf_one_f _ _ h1 h2
      · exact never_tf_one_t _ _ h1 h2
      · cases hbc
      · cases hbc
    · cases b <;> cases c <;> cases x
      · exact never_ff_hi_f _ _ _ h1 h2 hk
      · exact never_ff_hi_t _ _ _ h1 h2 hk
      · exact never_ft_hi_f _ _ _ h1 h2 hk
      · exact never_ft_hi_t _ _ _ h1 h2 hk
      · exact never_tf_hi_f _ _ _ h1 h2 hk
      · exact never_tf_hi_t _ _ _ h1 h2 hk
      · cases hbc
      · cases hbc
end Go.Proofs.Ytldfgeipgjmjcaa
