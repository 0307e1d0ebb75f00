/- Rows that came in, as lists. -/
import Derived.Test.YtofkgceenppdbaaOwn
namespace Go.Proofs.Ytofkgceenppdbaa
open Go.RowKit
set_option linter.unusedVariables false
theorem Sl.list {w : World} {q : IntKind} {p : Option Addr} {L : Nat} {X : Nat → Int} (h : Sl w q p L X) : ∃ Z : List Int, Z.length = L ∧ Sl w q p L (fun i => Z.getD i 0) ∧ ∀ i, i < L → Z.getD i 0 = X i := by
  have e : ∀ i, i < L → ((List.range L).map X).getD i 0 = X i := fun i hi => by simp [List.getD_eq_getElem?_getD, hi]
  refine ⟨(List.range L).map X, by simp, ?_, e⟩
  rcases h with h | ⟨b, o, e1, hc⟩
  · exact .inl h
  · exact .inr ⟨b, o, e1, fun i hi => by simp only [e i hi]; exact hc i hi⟩
theorem getD_mem {Z : List Int} {i : Nat} (h : i < Z.length) : Z.getD i 0 ∈ Z := by
  rw [List.getD_eq_getElem?_getD, List.getElem?_eq_getElem h]
  exact List.getElem_mem h
theorem mem_getD {Z : List Int} {z : Int} (h : z ∈ Z) : ∃ i, i < Z.length ∧ Z.getD i 0 = z := by
  obtain ⟨i, hi, e⟩ := List.mem_iff_getElem.1 h
  exact ⟨i, hi, by rw [List.getD_eq_getElem?_getD, List.getElem?_eq_getElem hi]; exact e⟩
theorem rest_sl {w : World} {q : IntKind} {b o : Nat} {x : Int} {L : List Int} (hc : ∀ i, i < (x :: L).length → w.cell? ⟨b, o + i, none⟩ = some (.int q ((x :: L).getD i 0))) : Sl w q (some ⟨b, o + 1, none⟩) L.length (fun i => L.getD i 0) := by
  refine .inr ⟨b, o + 1, rfl, fun i hi => ?_⟩
  have := hc (i + 1) (by simp; omega)
  rw [show o + 1 + i = o + (i + 1) from by omega]
  simpa using this
end Go.Proofs.Ytofkgceenppdbaa
