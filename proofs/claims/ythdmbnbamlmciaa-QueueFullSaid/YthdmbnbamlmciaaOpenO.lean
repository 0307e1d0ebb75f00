/- Helper text of this seat (OpenO): contracts of functions of the given program and of its references, each told by its theorem. -/
import Derived.Test.YthdmbnbamlmciaaOpenI
import Derived.Test.YthdmbnbamlmciaaLPlays
import Derived.Deep.SlicePairs
namespace Go.Proofs.Ythdmbnbamlmciaa
open Go.ChangeShapes Go.WideShapes Go.ChangeAt Go.RowKit Go.Deep
theorem cellsOp : Try.prog.cellsOf 40 = 2 := by kernel_rfl
theorem cellsInt : Try.prog.cellsOf 3 = 1 := by kernel_rfl
theorem open_ops {H : Type} {enc : TypeId × Value → H} {w : World} {base base' : Nat} {spare : Nat → Bool} {held : Bool} {r : Reach} {v : Value} {d : DataW H} {p : List MemPlace}
    (hv : Value.okWide Try.prog w r base' 36 v) (h : DataW.Trod enc Try.prog w base spare held 36 v d p) :
    ∃ (a : Option Addr) (L cap : Nat) (D T : Nat → Int), v = .slice a L cap ∧ Ops w a L D T := by
  obtain ⟨a0, L0, cap0, rfl⟩ := okWide_slice Try.underlying36 hv
  obtain ⟨fuel, hf⟩ := h
  rcases open_slice_pairs Try.underlying36 Try.underlying40 cellsOp rfl rfl cellsInt cellsInt hf with ⟨hc, hx⟩ | ⟨a, len, cap, m, k, V0, V1, D0, D1, P0, P1, hc, _, hl, hm, hmm, hx, hall⟩
  · simp [Value.cells] at hc
    exact ⟨a0, L0, cap0, fun _ => 0, fun _ => 0, rfl, .inl hc.2.1⟩
  · have hc' : a0 = some a ∧ L0 = len ∧ cap0 = cap := by simpa [Value.cells] using hc
    obtain ⟨rfl, rfl, rfl⟩ := hc'
    by_cases h0 : L0 = 0
    · exact ⟨some a, L0, cap0, fun _ => 0, fun _ => 0, rfl, .inl h0⟩
    have hLm : L0 ≤ m := by rw [hmm]; split <;> omega
    obtain ⟨sb, so, spot⟩ := a
    have hspot : spot = none := by simpa [Addr.add] using World.cell?_spot (hall 0 (by omega)).1
    subst hspot
    have hi0 : ∀ i, i < m → ∃ Ni, V0 i = .int .i64 Ni := fun i hi => by
      obtain ⟨Ni, h1, h2, h3⟩ := DataW.trod_int Try.underlying3 (hall i hi).2.2.1
      simp only [List.cons.injEq, and_true] at h1
      exact ⟨Ni, h1⟩
    have hi1 : ∀ i, i < m → ∃ Ni, V1 i = .int .i64 Ni := fun i hi => by
      obtain ⟨Ni, h1, h2, h3⟩ := DataW.trod_int Try.underlying3 (hall i hi).2.2.2
      simp only [List.cons.injEq, and_true] at h1
      exact ⟨Ni, h1⟩
    refine ⟨some ⟨sb, so, none⟩, L0, cap0, fun i => match V0 i with | .int _ n => n | _ => 0, fun i => match V1 i with | .int _ n => n | _ => 0, rfl, .inr ⟨sb, so, rfl, fun i hi => ?_⟩⟩
    obtain ⟨c0, c1, _⟩ := hall i (by omega)
    obtain ⟨Ni, e0⟩ := hi0 i (by omega)
    obtain ⟨Si, e1⟩ := hi1 i (by omega)
    rw [e0] at c0
    rw [e1] at c1
    simp only [e0, e1]
    rw [add_nothing] at c0 c1
    exact ⟨c0, by rw [Nat.add_assoc]; exact c1⟩
end Go.Proofs.Ythdmbnbamlmciaa
