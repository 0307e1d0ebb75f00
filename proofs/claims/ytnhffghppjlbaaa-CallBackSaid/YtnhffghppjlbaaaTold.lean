/- Helper text of this seat (Told): contracts of functions of the given program and of its references, each told by its theorem. -/
import Derived.Test.YtnhffghppjlbaaaRRd
namespace Go.Proofs.Ytnhffghppjlbaaa
open Go.RowKit
set_option linter.unusedVariables false
set_option linter.unusedSimpArgs false
set_option maxHeartbeats 1000000 in
theorem told_any (r : Nat → Int) (e v x : Int) (w : World) :
    Calls Try.prog 11 #[.agg (regs r), .int .i64 e, .int .u32 v, .int .u32 x] w fun e' w' => e' = .returned (.agg #[.int .u32 (IntKind.u32.wrap e), .int .u32 v, .int .u32 x, .int .u32 (r 3), .int .u32 (r 4), .int .u32 (r 5), .int .u32 (r 6), .int .u32 (r 7)]) ∧ Below w.heap.size w w' := by
  unfold regs
  go_enter Try.func11, Try.ntmps11
  go_wp2
  refine bodyPost_ret (by simp [results, Try.results11, go_sem, *]; try rfl) rfl ?_
  exact ⟨rfl, by go_grown⟩
set_option maxHeartbeats 1000000 in
theorem rtold_any (r : Nat → Int) (e v x : Int) (w : World) :
    Calls Try.prog 12 #[.agg (regs r), .int .i64 e, .int .u32 v, .int .u32 x] w fun e' w' => e' = .returned (.agg #[.int .u32 (IntKind.u32.wrap e), .int .u32 v, .int .u32 x, .int .u32 (r 3), .int .u32 (r 4), .int .u32 (r 5), .int .u32 (r 6), .int .u32 (r 7)]) ∧ Below w.heap.size w w' := by
  unfold regs
  go_enter Try.func12, Try.ntmps12
  go_wp2
  refine bodyPost_ret (by simp [results, Try.results12, go_sem, *]; try rfl) rfl ?_
  exact ⟨rfl, by go_grown⟩
end Go.Proofs.Ytnhffghppjlbaaa
