/- Rows of rows of words that come in, opened. -/
import Derived.Test.YtofkgceenppdbaaOpenI
import Derived.Test.YtofkgceenppdbaaLList
import Derived.Deep.Slices
import Derived.Deep.SlicePairs
namespace Go.Proofs.Ytofkgceenppdbaa
open Go.ChangeShapes Go.WideShapes Go.ChangeAt Go.RowKit Go.Deep
set_option linter.unusedVariables false
set_option maxRecDepth 100000
theorem cellsRow : Try.prog.cellsOf 41 = 1 := by kernel_rfl
theorem cellsWd : Try.prog.cellsOf 40 = 1 := by kernel_rfl
theorem add_nothing' (b o i : Nat) : (⟨b, o, none⟩ : Addr).add i = ⟨b, o + i, none⟩ := by
  unfold Addr.add
  by_cases h : i = 0
  · subst h; simp
  · simp [h]
/-- a row that came in, as a list -/
theorem open_rowl {H : Type} {enc : TypeId × Value → H} {w : World} {base : Nat} {spare : Nat → Bool} {held : Bool} {cs : List Value} {x : DataW H × List MemPlace} {fuel : Nat}
    (hf : DataW.trod enc Try.prog w base spare held fuel 41 cs = some x) :
    ∃ (a : Option Addr) (cap : Nat) (Y : List Int), cs = [.slice a Y.length cap] ∧ Sl w .u32 a Y.length (fun i => Y.getD i 0) ∧ (∀ i, i < Y.length → 0 ≤ Y.getD i 0 ∧ Y.getD i 0 < 4294967296) ∧ Y.length ≤ cap ∧ Y.length ≤ maxLen := by
  rcases open_ints Try.underlying41 Try.underlying40 cellsWd hf with ⟨hcs, _⟩ | ⟨a, len, cap, zs, hcs, _, hl, hm, hlen, _, hcell, hwf⟩
  · exact ⟨none, 0, [], hcs, .inl rfl, fun i hi => by simp at hi, by simp, by simp [maxLen]⟩
  · have hLz : len ≤ zs.length := by rw [hlen]; split <;> omega
    have hsl : Sl w .u32 (some a) len (fun i => zs.getD i 0) := by
      by_cases h0 : len = 0
      · exact .inl h0
      obtain ⟨sb, so, spot⟩ := a
      have hspot : spot = none := by simpa [Addr.add] using World.cell?_spot (hcell 0 (by omega))
      subst hspot
      refine .inr ⟨sb, so, rfl, fun i hi => ?_⟩
      rw [← add_nothing']
      exact hcell i (by omega)
    obtain ⟨Z, hZ, hs, he⟩ := hsl.list
    subst hZ
    refine ⟨some a, cap, Z, hcs, hs, fun i hi => ?_, hl, by omega⟩
    rw [he i hi]
    refine wf_lo (hwf _ ?_)
    have : i < zs.length := by omega
    rw [List.getD_eq_getElem?_getD, List.getElem?_eq_getElem this]
    exact List.getElem_mem this
/-- rows as they lie -/
def RowsW (w : World) (p : Option Addr) (n : Nat) (A : Nat → Option Addr) (CP : Nat → Nat) (Y : Nat → List Int) : Prop :=
  n = 0 ∨ ∃ b o, p = some ⟨b, o, none⟩ ∧ ∀ i, i < n → w.cell? ⟨b, o + i, none⟩ = some (.slice (A i) (Y i).length (CP i)) ∧ Sl w .u32 (A i) (Y i).length (fun t => (Y i).getD t 0) ∧ (∀ t, t < (Y i).length → 0 ≤ (Y i).getD t 0 ∧ (Y i).getD t 0 < 4294967296) ∧ (Y i).length ≤ CP i ∧ (Y i).length ≤ maxLen
theorem open_rows2 {H : Type} {enc : TypeId × Value → H} {w : World} {base base' : Nat} {spare : Nat → Bool} {held : Bool} {r : Reach} {v : Value} {d : DataW H} {p : List MemPlace}
    (hv : Value.okWide Try.prog w r base' 50 v) (h : DataW.Trod enc Try.prog w base spare held 50 v d p) :
    ∃ (a : Option Addr) (L cap : Nat) (A : Nat → Option Addr) (CP : Nat → Nat) (Y : Nat → List Int), v = .slice a L cap ∧ RowsW w a L A CP Y := by
  obtain ⟨a0, L0, cap0, rfl⟩ := okWide_slice Try.underlying50 hv
  obtain ⟨fuel, hf⟩ := h
  rcases open_slice1 Try.underlying50 cellsRow hf with ⟨hc, hx⟩ | ⟨a, len, cap, m, k, V, D, Pl, hc, _, hl, hm, hmm, hx, hall⟩
  · simp [Value.cells] at hc
    exact ⟨a0, L0, cap0, fun _ => none, fun _ => 0, fun _ => [], rfl, .inl hc.2.1⟩
  · have hc' : a0 = some a ∧ L0 = len ∧ cap0 = cap := by simpa [Value.cells] using hc
    obtain ⟨rfl, rfl, rfl⟩ := hc'
    by_cases h0 : L0 = 0
    · exact ⟨some a, L0, cap0, fun _ => none, fun _ => 0, fun _ => [], rfl, .inl h0⟩
    have hLm : L0 ≤ m := by rw [hmm]; split <;> omega
    obtain ⟨sb, so, spot⟩ := a
    have hspot : spot = none := by simpa [Addr.add] using World.cell?_spot (hall 0 (by omega)).1
    subst hspot
    have each : ∀ i, ∃ q : Option Addr × Nat × List Int, i < L0 → w.cell? ⟨sb, so + i, none⟩ = some (.slice q.1 q.2.2.length q.2.1) ∧ Sl w .u32 q.1 q.2.2.length (fun t => q.2.2.getD t 0) ∧ (∀ t, t < q.2.2.length → 0 ≤ q.2.2.getD t 0 ∧ q.2.2.getD t 0 < 4294967296) ∧ q.2.2.length ≤ q.2.1 ∧ q.2.2.length ≤ maxLen := by
      intro i
      by_cases hi : i < L0
      · obtain ⟨c0, t1⟩ := hall i (by omega)
        obtain ⟨ra, rc, rY, hcs, hs, hw, hle, hmx⟩ := open_rowl t1
        simp only [List.cons.injEq, and_true] at hcs
        rw [hcs, add_nothing'] at c0
        exact ⟨(ra, rc, rY), fun _ => ⟨c0, hs, hw, hle, hmx⟩⟩
      · exact ⟨(none, 0, []), fun h => absurd h hi⟩
    obtain ⟨g, hg⟩ := Classical.skolem.1 each
    exact ⟨some ⟨sb, so, none⟩, L0, cap0, fun i => (g i).1, fun i => (g i).2.1, fun i => (g i).2.2, rfl, .inr ⟨sb, so, rfl, fun i hi => hg i hi⟩⟩
end Go.Proofs.Ytofkgceenppdbaa
