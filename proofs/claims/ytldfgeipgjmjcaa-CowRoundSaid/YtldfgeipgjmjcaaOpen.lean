/- An entry that comes in, opened. -/
import Derived.Test.YtldfgeipgjmjcaaBase
import Derived.ProofKit
import Derived.Lib.SmallJoins
namespace Go.Proofs.Ytldfgeipgjmjcaa
open Go.ChangeShapes Go.WideShapes Go.ChangeAt Go.RowKit Go.Joins
set_option linter.unusedVariables false
theorem cells23 : Try.prog.cellsOf 23 = 4 := by kernel_rfl
theorem open_entry {H : Type} {enc : TypeId × Value → H} {w : World} {base base' : Nat} {spare : Nat → Bool} {held : Bool} {r : Reach} {v : Value} {d : DataW H} {p : List MemPlace}
    (hv : Value.okWide Try.prog w r base' 23 v) (h : DataW.Trod enc Try.prog w base spare held 23 v d p) :
    ∃ (a b c : Bool) (n : Int), v = .agg #[.bool a, .bool b, .bool c, .int .i64 n] := by
  obtain ⟨c0, c1, c2, c3, y0, y1, y2, y3, m, rfl, hd, hp, g0, g1, g2, g3⟩ := open_agg4 Try.underlying23 (by kernel_rfl) cells23 hv h
  obtain ⟨a, e0, _⟩ := DataW.trod_bool Try.underlying4 g0
  obtain ⟨b, e1, _⟩ := DataW.trod_bool Try.underlying4 g1
  obtain ⟨c, e2, _⟩ := DataW.trod_bool Try.underlying4 g2
  obtain ⟨n, e3, _⟩ := DataW.trod_int Try.underlying3 g3
  simp at e0 e1 e2 e3
  subst e0 e1 e2 e3
  exact ⟨a, b, c, n, rfl⟩
end Go.Proofs.Ytldfgeipgjmjcaa
