/- plan's Chan. -/
import Derived.Test.YtofkgceenppdbaaPlanF
namespace Go.Proofs.Ytofkgceenppdbaa
open Go.RowKit
set_option linter.unusedVariables false
set_option linter.unusedSimpArgs false
theorem chan_any (C : Cfg) (ly : Lay) (p : Int) (w : World) (hI : IsC w C ly) (hN : Big C) :
    Calls Try.prog 33 #[.agg (cfgV C ly), .int .i64 p] w fun e w' => e = .returned (.tuple #[.int .i64 (chA C p), .int .i64 (chB C p), .int .i64 (chE C p)]) ∧ Below w.heap.size w w' := by
  have HF := Lib.hid fun (W : World) (h : IsC W C ly) => find_chan C ly p W h hN
  have HI := Lib.hid hI
  clear hI
  obtain ⟨pP, cP, pW, cW, pC, cC⟩ := ly
  unfold cfgV at *
  simp only at *
  go_enter Try.func33, Try.ntmps33
  go_wp2_with fail
  refine (HF.out _ (by exact HI.out.below (by go_grown))).mono ?_
  rintro e w1 ⟨rfl, hb⟩
  go_wp2
  go_ret3
  exact ⟨rfl, bstep (by go_grown) hb⟩
end Go.Proofs.Ytofkgceenppdbaa
