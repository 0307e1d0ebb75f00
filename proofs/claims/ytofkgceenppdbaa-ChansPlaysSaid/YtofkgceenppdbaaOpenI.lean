/- Rows of whole numbers that come in, opened. -/
import Derived.Test.YtofkgceenppdbaaOwn
import Derived.ChangeSlices
import Derived.ProofKit
import Derived.OpenShut
namespace Go.Proofs.Ytofkgceenppdbaa
open Go.ChangeShapes Go.WideShapes Go.ChangeAt Go.RowKit
set_option linter.unusedVariables false
set_option maxRecDepth 100000
theorem wf_lo {n : Int} (h : (Lit.int .u32 n).wf = true) : 0 ≤ n ∧ n < 4294967296 := by
  have h1 : IntKind.u32.min = 0 := rfl
  have h2 : IntKind.u32.max = 4294967295 := rfl
  simp only [Lit.wf, Bool.and_eq_true, decide_eq_true_eq] at h
  omega
theorem add_nothing (b o k : Nat) : (⟨b, o, none⟩ : Addr).add k = ⟨b, o + k, none⟩ := by
  unfold Addr.add
  by_cases h : k = 0
  · subst h; simp
  · simp [h]
theorem open_row {H : Type} {enc : TypeId × Value → H} {w : World} {base base' : Nat} {spare : Nat → Bool} {held : Bool} {r : Reach} {v : Value} {d : DataW H} {p : List MemPlace} {t e : TypeId} {k : IntKind}
    (ht : Try.prog.underlying t = some (.slice e)) (he : Try.prog.underlying e = some (.int k)) (hc : Try.prog.cellsOf e = 1)
    (hv : Value.okWide Try.prog w r base' t v) (h : DataW.Trod enc Try.prog w base spare held t v d p) :
    ∃ (a : Option Addr) (L cap : Nat) (X : Nat → Int), v = .slice a L cap ∧ Sl w k a L X ∧ (∀ i, i < L → (Lit.int k (X i)).wf = true) ∧ L ≤ maxLen ∧ L ≤ cap := by
  obtain ⟨a0, L0, cap0, rfl⟩ := okWide_slice ht hv
  obtain ⟨fuel, hf⟩ := h
  rcases open_ints ht he hc hf with ⟨hcs, _⟩ | ⟨a, len, cap, zs, hcs, _, hl, hm, hlen, _, hcell, hwf⟩
  · simp [Value.cells] at hcs
    obtain ⟨rfl, rfl, rfl⟩ := hcs
    exact ⟨none, 0, 0, fun _ => 0, rfl, .inl rfl, fun i hi => by omega, Nat.zero_le _, Nat.le_refl _⟩
  · have hc' : a0 = some a ∧ L0 = len ∧ cap0 = cap := by simpa [Value.cells] using hcs
    obtain ⟨rfl, rfl, rfl⟩ := hc'
    have hLz : L0 ≤ zs.length := by rw [hlen]; split <;> omega
    refine ⟨some a, L0, cap0, fun i => zs.getD i 0, rfl, ?_, fun i hi => hwf _ ?_, by omega, hl⟩
    · by_cases h0 : L0 = 0
      · exact .inl h0
      obtain ⟨sb, so, spot⟩ := a
      have hspot : spot = none := by simpa [Addr.add] using World.cell?_spot (hcell 0 (by omega))
      subst hspot
      refine .inr ⟨sb, so, rfl, fun i hi => ?_⟩
      rw [← add_nothing]
      exact hcell i (by omega)
    · have : i < zs.length := by omega
      show zs.getD i 0 ∈ zs
      rw [List.getD_eq_getElem?_getD, List.getElem?_eq_getElem this]
      exact List.getElem_mem this
end Go.Proofs.Ytofkgceenppdbaa
