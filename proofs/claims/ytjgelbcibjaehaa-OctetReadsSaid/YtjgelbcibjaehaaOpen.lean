/- Helper text of this seat (Open): contracts of functions of the given program and of its references, each told by its theorem. -/
import Derived.Test.YtjgelbcibjaehaaReads
import Derived.Deep.SlicePairs
import Derived.ProofKit
import Derived.OpenShut
namespace Go.Proofs.Ytjgelbcibjaehaa
open Go.ChangeShapes Go.WideShapes Go.ChangeAt Go.RowKit Go.Deep
theorem wf_word {n : Int} (h : (Lit.int .u32 n).wf = true) : 0 ≤ n ∧ n < 4294967296 := by
  have h1 : IntKind.u32.min = 0 := rfl
  have h2 : IntKind.u32.max = 4294967295 := rfl
  simp only [Lit.wf, Bool.and_eq_true, decide_eq_true_eq] at h
  omega
theorem cellsOp : Try.prog.cellsOf 40 = 2 := by kernel_rfl
theorem cellsInt : Try.prog.cellsOf 3 = 1 := by kernel_rfl
theorem cellsStr : Try.prog.cellsOf 9 = 1 := by kernel_rfl
theorem add_none (b o k : Nat) : (⟨b, o, none⟩ : Addr).add k = ⟨b, o + k, none⟩ := by
  unfold Addr.add
  by_cases h : k = 0
  · subst h; simp
  · simp [h]
theorem open_ops {H : Type} {enc : TypeId × Value → H} {w : World} {base base' : Nat} {spare : Nat → Bool} {held : Bool} {r : Reach} {v : Value} {d : DataW H} {p : List MemPlace}
    (hv : Value.okWide Try.prog w r base' 36 v) (h : DataW.Trod enc Try.prog w base spare held 36 v d p) :
    ∃ (a : Option Addr) (L cap : Nat), v = .slice a L cap ∧ (L = 0 ∨ ∃ b o D T, a = some ⟨b, o, none⟩ ∧ Ops w b o L D T) := by
  obtain ⟨a0, L0, cap0, rfl⟩ := okWide_slice Try.underlying36 hv
  refine ⟨a0, L0, cap0, rfl, ?_⟩
  obtain ⟨fuel, hf⟩ := h
  rcases open_slice_pairs Try.underlying36 Try.underlying40 cellsOp rfl rfl cellsInt cellsStr hf with ⟨hc, hx⟩ | ⟨a, len, cap, m, k, V0, V1, D0, D1, P0, P1, hc, _, hl, hm, hmm, hx, hall⟩
  · left
    simp [Value.cells] at hc
    exact hc.2.1
  · have hc' : a0 = some a ∧ L0 = len ∧ cap0 = cap := by simpa [Value.cells] using hc
    obtain ⟨rfl, rfl, rfl⟩ := hc'
    by_cases h0 : L0 = 0
    · exact .inl h0
    right
    have hLm : L0 ≤ m := by rw [hmm]; split <;> omega
    obtain ⟨sb, so, spot⟩ := a
    have hspot : spot = none := by simpa [Addr.add] using World.cell?_spot (hall 0 (by omega)).1
    subst hspot
    have hint : ∀ i, i < m → ∃ Ni, V0 i = .int .i64 Ni := fun i hi => by
      obtain ⟨Ni, h1, h2, h3⟩ := DataW.trod_int Try.underlying3 (hall i hi).2.2.1
      simp only [List.cons.injEq, and_true] at h1
      exact ⟨Ni, h1⟩
    have hstr : ∀ i, i < m → ∃ Si, V1 i = .string Si := fun i hi => by
      obtain ⟨Si, h1, _⟩ := DataW.trod_string Try.underlying9 (hall i hi).2.2.2
      simp only [List.cons.injEq, and_true] at h1
      exact ⟨Si, h1⟩
    refine ⟨sb, so, fun i => match V0 i with | .int _ n => n | _ => 0, fun i => match V1 i with | .string s => s | _ => ByteArray.empty, rfl, fun i hi => ?_⟩
    obtain ⟨c0, c1, _⟩ := hall i (by omega)
    obtain ⟨Ni, e0⟩ := hint i (by omega)
    obtain ⟨Si, e1⟩ := hstr i (by omega)
    rw [e0] at c0
    rw [e1] at c1
    simp only [e0, e1]
    rw [add_none] at c0 c1
    exact ⟨c0, by rw [Nat.add_assoc]; exact c1⟩
end Go.Proofs.Ytjgelbcibjaehaa
