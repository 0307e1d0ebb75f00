/- Helper text of this seat (RPutB): contracts of functions of the given program and of its references, each told by its theorem. -/
import Derived.Test.YtnhffghppjlbaaaPut
import Derived.Test.YtnhffghppjlbaaaRRd
import Derived.Test.YtnhffghppjlbaaaLaws
namespace Go.Proofs.Ytnhffghppjlbaaa
open Go.RowKit
set_option linter.unusedVariables false
set_option linter.unusedSimpArgs false
def fitB (n : Int) : Bool := decide (0 ≤ n) && decide (n ≤ 4294967295)
theorem fits_any (n : Int) (w : World) :
    Calls Try.prog 17 #[.int .i64 n] w fun e w' => e = .returned (.bool (fitB n)) ∧ w' = w := by
  unfold fitB
  by_cases h : 0 ≤ n
  · go_enter Try.func17, Try.ntmps17
    go_wp2
    go_ret
    exact ⟨by simp [h], rfl⟩
  · have h2 : n < 0 := by omega
    go_enter Try.func17, Try.ntmps17
    go_wp2
    go_ret
    exact ⟨by simp [h2]; omega, rfl⟩
theorem rread_l {a0 a1 a2 a3 a4 a5 a6 a7 : Int} (hr : Words (rf a0 a1 a2 a3 a4 a5 a6 a7)) (w : World) (n a b c : Int) (x : Bool) (e : Int)
    (hn : sNo (rf a0 a1 a2 a3 a4 a5 a6 a7) = n) (ha : sA (rf a0 a1 a2 a3 a4 a5 a6 a7) = a) (hb : sB (rf a0 a1 a2 a3 a4 a5 a6 a7) = b) (hc : sC (rf a0 a1 a2 a3 a4 a5 a6 a7) = c) (hx : sW (rf a0 a1 a2 a3 a4 a5 a6 a7) = x) (he : sE (rf a0 a1 a2 a3 a4 a5 a6 a7) = e) :
    Calls Try.prog 10 #[.agg #[.int .u32 a0, .int .u32 a1, .int .u32 a2, .int .u32 a3, .int .u32 a4, .int .u32 a5, .int .u32 a6, .int .u32 a7]] w fun e' w' => e' = .returned (.tuple #[.agg #[.int .i64 n, .int .i64 a, .int .i64 b, .int .u32 c, .bool x], .int .i64 e]) ∧ Below w.heap.size w w' := by
  subst hn ha hb hc hx he
  exact rread_any _ hr w
theorem eq_sys (n a b c : Int) (x : Bool) (n' a' b' c' : Int) (x' : Bool) (w : World) :
    (Op.equalIn 10000 27 (.agg #[.int .i64 n, .int .i64 a, .int .i64 b, .int .u32 c, .bool x]) (.agg #[.int .i64 n', .int .i64 a', .int .i64 b', .int .u32 c', .bool x'])).run Try.prog w
      = .ok (decide (n = n' ∧ a = a' ∧ b = b' ∧ c = c' ∧ x = x')) w := by
  by_cases h1 : n = n' <;> by_cases h2 : a = a' <;> by_cases h3 : b = b' <;> by_cases h4 : c = c' <;> by_cases h5 : x = x' <;> simp [go_sem, h1, h2, h3, h4, h5]
end Go.Proofs.Ytnhffghppjlbaaa
