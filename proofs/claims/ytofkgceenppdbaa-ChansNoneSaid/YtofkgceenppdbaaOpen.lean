/- A row of words that comes in, opened. -/
import Derived.Test.YtofkgceenppdbaaOpenI
namespace Go.Proofs.Ytofkgceenppdbaa
open Go.ChangeShapes Go.WideShapes Go.ChangeAt Go.RowKit
set_option maxRecDepth 100000
theorem open_words {H : Type} {enc : TypeId × Value → H} {w : World} {base base' : Nat} {spare : Nat → Bool} {held : Bool} {r : Reach} {v : Value} {d : DataW H} {p : List MemPlace}
    (hv : Value.okWide Try.prog w r base' 41 v) (h : DataW.Trod enc Try.prog w base spare held 41 v d p) :
    ∃ (a : Option Addr) (L cap : Nat) (X : Nat → Int), v = .slice a L cap ∧ Sl w .u32 a L X ∧ (∀ i, i < L → 0 ≤ X i ∧ X i < 4294967296) ∧ L ≤ maxLen ∧ L ≤ cap := by
  obtain ⟨a, L, cap, X, h1, h2, h3, h4⟩ := open_row Try.underlying41 Try.underlying40 (by kernel_rfl) hv h
  exact ⟨a, L, cap, X, h1, h2, fun i hi => wf_lo (h3 i hi), h4⟩
end Go.Proofs.Ytofkgceenppdbaa
