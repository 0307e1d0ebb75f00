/- A call that comes in, opened. -/
import Derived.Test.YtnhffghppjlbaaaOpen
namespace Go.Proofs.Ytnhffghppjlbaaa
open Go.ChangeShapes Go.WideShapes Go.ChangeAt Go.RowKit Go.Joins
set_option linter.unusedVariables false
theorem cellsS : Try.prog.cellsOf 27 = 5 := by kernel_rfl
theorem cellsI : Try.prog.cellsOf 3 = 1 := by kernel_rfl
theorem cellsB : Try.prog.cellsOf 4 = 1 := by kernel_rfl
theorem open_sys {H : Type} {enc : TypeId × Value → H} {w : World} {base base' : Nat} {spare : Nat → Bool} {held : Bool} {r : Reach} {v : Value} {d : DataW H} {p : List MemPlace}
    (hv : Value.okWide Try.prog w r base' 27 v) (h : DataW.Trod enc Try.prog w base spare held 27 v d p) :
    ∃ (n A B C : Int) (W : Bool), v = .agg #[.int .i64 n, .int .i64 A, .int .i64 B, .int .u32 C, .bool W] ∧ 0 ≤ C ∧ C < 4294967296 := by
  obtain ⟨cs, rfl, hsz⟩ := okWide_struct Try.underlying27 hv
  rw [cellsS] at hsz
  obtain ⟨l⟩ := cs
  match l, hsz with
  | [c0, c1, c2, c3, c4], _ =>
    obtain ⟨fuel, hf⟩ := h
    obtain ⟨xs, m, _, _, _, hlen, hx⟩ := DataW.trod_struct Try.underlying27 hf
    match xs, hlen with
    | [y0, y1, y2, y3, y4], _ =>
      have g0 := hx 0 _ rfl
      have g1 := hx 1 _ rfl
      have g2 := hx 2 _ rfl
      have g3 := hx 3 _ rfl
      have g4 := hx 4 _ rfl
      simp [cellsI, cellsW, cellsB, Value.cells] at g0 g1 g2 g3 g4
      obtain ⟨n, e0, _⟩ := DataW.trod_int Try.underlying3 g0
      obtain ⟨a, e1, _⟩ := DataW.trod_int Try.underlying3 g1
      obtain ⟨b, e2, _⟩ := DataW.trod_int Try.underlying3 g2
      obtain ⟨c, e3, _, hw⟩ := DataW.trod_int Try.underlying23 g3
      obtain ⟨x, e4, _⟩ := DataW.trod_bool Try.underlying4 g4
      simp at e0 e1 e2 e3 e4
      subst e0 e1 e2 e3 e4
      exact ⟨n, a, b, c, x, rfl, wf_word hw⟩
end Go.Proofs.Ytnhffghppjlbaaa
