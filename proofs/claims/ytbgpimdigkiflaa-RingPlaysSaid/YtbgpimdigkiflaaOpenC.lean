/- A row of calls that comes in, each a number and a row of words, opened. -/
import Derived.Test.YtbgpimdigkiflaaOpenI
import Derived.Test.YtbgpimdigkiflaaLSafe
import Derived.Deep.SlicePairs
namespace Go.Proofs.Ytbgpimdigkiflaa
open Go.ChangeShapes Go.WideShapes Go.ChangeAt Go.RowKit Go.Deep
set_option linter.unusedVariables false
theorem cellsOp : Try.prog.cellsOf 40 = 2 := by kernel_rfl
theorem cellsInt : Try.prog.cellsOf 3 = 1 := by kernel_rfl
theorem cellsRow : Try.prog.cellsOf 38 = 1 := by kernel_rfl
theorem cellsWd : Try.prog.cellsOf 34 = 1 := by kernel_rfl
/-- calls as they lie: a number, and a row of words -/
def OpsW (w : World) (p : Option Addr) (n : Nat) (D : Nat → Int) (A : Nat → Option Addr) (M CP : Nat → Nat) (X : Nat → Nat → Int) : Prop :=
  n = 0 ∨ ∃ b o, p = some ⟨b, o, none⟩ ∧ ∀ i, i < n → w.cell? ⟨b, o + i * 2, none⟩ = some (.int .i64 (D i)) ∧ w.cell? ⟨b, o + i * 2 + 1, none⟩ = some (.slice (A i) (M i) (CP i)) ∧
    Sl w .u32 (A i) (M i) (X i) ∧ (∀ j, j < M i → 0 ≤ X i j ∧ X i j < 4294967296) ∧ M i ≤ CP i ∧ M i ≤ maxLen
theorem open_rowc {H : Type} {enc : TypeId × Value → H} {w : World} {base : Nat} {spare : Nat → Bool} {held : Bool} {cs : List Value} {x : DataW H × List MemPlace} {fuel : Nat}
    (hf : DataW.trod enc Try.prog w base spare held fuel 38 cs = some x) :
    ∃ (a : Option Addr) (L cap : Nat) (X : Nat → Int), cs = [.slice a L cap] ∧ Sl w .u32 a L X ∧ (∀ i, i < L → 0 ≤ X i ∧ X i < 4294967296) ∧ L ≤ cap ∧ L ≤ maxLen := by
  rcases open_ints Try.underlying38 Try.underlying34 cellsWd hf with ⟨hcs, _⟩ | ⟨a, len, cap, zs, hcs, _, hl, hm, hlen, _, hcell, hwf⟩
  · exact ⟨none, 0, 0, fun _ => 0, hcs, .inl rfl, fun i hi => by omega, Nat.le_refl _, by simp [maxLen]⟩
  · have hLz : len ≤ zs.length := by rw [hlen]; split <;> omega
    refine ⟨some a, len, cap, fun i => zs.getD i 0, hcs, ?_, fun i hi => wf_lo (hwf _ ?_), hl, by omega⟩
    · by_cases h0 : len = 0
      · exact .inl h0
      obtain ⟨sb, so, spot⟩ := a
      have hspot : spot = none := by simpa [Addr.add] using World.cell?_spot (hcell 0 (by omega))
      subst hspot
      refine .inr ⟨sb, so, rfl, fun i hi => ?_⟩
      rw [← add_nothing]
      exact hcell i (by omega)
    · have : i < zs.length := by omega
      show zs.getD i 0 ∈ zs
      rw [List.getD_eq_getElem?_getD, List.getElem?_eq_getElem this]
      exact List.getElem_mem this
theorem open_opsw {H : Type} {enc : TypeId × Value → H} {w : World} {base base' : Nat} {spare : Nat → Bool} {held : Bool} {r : Reach} {v : Value} {d : DataW H} {p : List MemPlace}
    (hv : Value.okWide Try.prog w r base' 22 v) (h : DataW.Trod enc Try.prog w base spare held 22 v d p) :
    ∃ (a : Option Addr) (L cap : Nat) (D : Nat → Int) (A : Nat → Option Addr) (M CP : Nat → Nat) (X : Nat → Nat → Int), v = .slice a L cap ∧ OpsW w a L D A M CP X := by
  obtain ⟨a0, L0, cap0, rfl⟩ := okWide_slice Try.underlying22 hv
  obtain ⟨fuel, hf⟩ := h
  rcases open_slice_pairs Try.underlying22 Try.underlying40 cellsOp rfl rfl cellsInt cellsRow hf with ⟨hc, hx⟩ | ⟨a, len, cap, m, k, V0, V1, D0, D1, P0, P1, hc, _, hl, hm, hmm, hx, hall⟩
  · simp [Value.cells] at hc
    exact ⟨a0, L0, cap0, fun _ => 0, fun _ => none, fun _ => 0, fun _ => 0, fun _ _ => 0, rfl, .inl hc.2.1⟩
  · have hc' : a0 = some a ∧ L0 = len ∧ cap0 = cap := by simpa [Value.cells] using hc
    obtain ⟨rfl, rfl, rfl⟩ := hc'
    by_cases h0 : L0 = 0
    · exact ⟨some a, L0, cap0, fun _ => 0, fun _ => none, fun _ => 0, fun _ => 0, fun _ _ => 0, rfl, .inl h0⟩
    have hLm : L0 ≤ m := by rw [hmm]; split <;> omega
    obtain ⟨sb, so, spot⟩ := a
    have hspot : spot = none := by simpa [Addr.add] using World.cell?_spot (hall 0 (by omega)).1
    subst hspot
    have each : ∀ i, ∃ q : Int × Option Addr × Nat × Nat × (Nat → Int), i < L0 → w.cell? ⟨sb, so + i * 2, none⟩ = some (.int .i64 q.1) ∧ w.cell? ⟨sb, so + i * 2 + 1, none⟩ = some (.slice q.2.1 q.2.2.1 q.2.2.2.1) ∧
        Sl w .u32 q.2.1 q.2.2.1 q.2.2.2.2 ∧ (∀ j, j < q.2.2.1 → 0 ≤ q.2.2.2.2 j ∧ q.2.2.2.2 j < 4294967296) ∧ q.2.2.1 ≤ q.2.2.2.1 ∧ q.2.2.1 ≤ maxLen := by
      intro i
      by_cases hi : i < L0
      · obtain ⟨c0, c1, t0, t1⟩ := hall i (by omega)
        obtain ⟨Ni, h1, _⟩ := DataW.trod_int Try.underlying3 t0
        simp only [List.cons.injEq, and_true] at h1
        obtain ⟨ra, rl, rc, rx, hcs, hs, hw, hle, hmx⟩ := open_rowc t1
        simp only [List.cons.injEq, and_true] at hcs
        rw [h1, add_nothing] at c0
        rw [hcs, add_nothing] at c1
        exact ⟨(Ni, ra, rl, rc, rx), fun _ => ⟨c0, by rw [Nat.add_assoc]; exact c1, hs, hw, hle, hmx⟩⟩
      · exact ⟨(0, none, 0, 0, fun _ => 0), fun h => absurd h hi⟩
    obtain ⟨g, hg⟩ := Classical.skolem.1 each
    exact ⟨some ⟨sb, so, none⟩, L0, cap0, fun i => (g i).1, fun i => (g i).2.1, fun i => (g i).2.2.1, fun i => (g i).2.2.2.1, fun i => (g i).2.2.2.2, rfl, .inr ⟨sb, so, rfl, fun i hi => hg i hi⟩⟩
theorem OpsW.chg {w : World} {p : Option Addr} {n : Nat} {D : Nat → Int} {A : Nat → Option Addr} {M CP : Nat → Nat} {X : Nat → Nat → Int} (h : OpsW w p n D A M CP X) : Chg w p n D A M CP (fun i => X i 0) := by
  rcases h with h | ⟨b, o, e, h⟩
  · exact .inl h
  · refine .inr ⟨b, o, e, fun i hi => ⟨(h i hi).1, (h i hi).2.1, fun hm => ⟨?_, (h i hi).2.2.2.1 0 (by omega)⟩⟩⟩
    rcases (h i hi).2.2.1 with h0 | ⟨b', o', e', hc⟩
    · omega
    · exact ⟨b', o', e', by simpa using hc 0 (by omega)⟩
theorem RingSafe_any (c d s : Int) (p : Option Addr) (n cap : Nat) (D : Nat → Int) (A : Nat → Option Addr) (M CP : Nat → Nat) (X : Nat → Nat → Int) (w : World) (h : OpsW w p n D A M CP X) :
    Calls Try.prog 4 #[.int .i64 c, .int .i64 d, .int .i64 s, .slice p n cap] w fun e w' => e = .returned (.bool true) ∧ Below w.heap.size w w' := by
  by_cases hb : (c < 1 ∨ 8 < c ∨ d < 1 ∨ 8 < d) ∨ 20 < n ∨ c < s
  · exact safe_bad c d s p n cap w hb
  · obtain ⟨c, rfl⟩ : ∃ q : Nat, c = q := ⟨c.toNat, by omega⟩
    obtain ⟨d, rfl⟩ : ∃ q : Nat, d = q := ⟨d.toNat, by omega⟩
    exact safe_good c d s p n cap D A M CP (fun i => X i 0) w (by omega) (by omega) (by omega) (by omega) (by omega) (by omega) h.chg
end Go.Proofs.Ytbgpimdigkiflaa
