/- A script of calls that comes in, opened. -/
import Derived.Test.YtofkgceenppdbaaOpenCf
import Derived.Test.YtofkgceenppdbaaOpenR
import Derived.Test.YtofkgceenppdbaaLScr
namespace Go.Proofs.Ytofkgceenppdbaa
open Go.ChangeShapes Go.WideShapes Go.ChangeAt Go.RowKit Go.Joins Go.Deep
set_option linter.unusedVariables false
set_option maxRecDepth 100000
theorem open_opsG {H : Type} {enc : TypeId × Value → H} {w : World} {base : Nat} {spare : Nat → Bool} {held : Bool} {cs : List Value} {x : DataW H × List MemPlace} {fuel : Nat} {t e : TypeId} {fs : Array Field}
    (ht : Try.prog.underlying t = some (.slice e)) (he : Try.prog.underlying e = some (.struct fs)) (hone : oneCellFields Try.prog fs = true) (hC : Try.prog.cellsOf e = 4) (hk : fs.size = 4) (hI : ∀ (j : Nat) (f : Field), fs[j]? = some f → (j < 3 → f.type = 3) ∧ (j = 3 → f.type = 41))
    (h : DataW.trod enc Try.prog w base spare held fuel t cs = some x) :
    ∃ (a : Option Addr) (L cap : Nat) (X : Nat → Nat → Int) (A : Nat → Option Addr) (CP : Nat → Nat) (Y : Nat → List Int), cs = [.slice a L cap] ∧ (L = 0 ∨ ∃ b o, a = some ⟨b, o, none⟩ ∧ ∀ i, i < L → (∀ j, j < 3 → w.cell? ⟨b, o + i * 4 + j, none⟩ = some (.int .i64 (X i j))) ∧ w.cell? ⟨b, o + i * 4 + 3, none⟩ = some (.slice (A i) (Y i).length (CP i)) ∧
      Sl w .u32 (A i) (Y i).length (fun t => (Y i).getD t 0) ∧ (∀ t, t < (Y i).length → 0 ≤ (Y i).getD t 0 ∧ (Y i).getD t 0 < 4294967296) ∧ (Y i).length ≤ CP i ∧ (Y i).length ≤ maxLen) := by
  rcases open_slice ht h with ⟨hcs, _⟩ | ⟨a, len, cap, m, n, D, Pl, hcs, _, hl, _, hmm, _, hx⟩
  · exact ⟨none, 0, 0, fun _ _ => 0, fun _ => none, fun _ => 0, fun _ => [], hcs, .inl rfl⟩
  · have hlm : len ≤ m := by rw [hmm]; split <;> omega
    have field : ∀ i, i < len → ∀ j, j < 4 → ∃ u y, w.cell? ((a.add (i * 4)).add j) = some u ∧ DataW.trod enc Try.prog w base spare held n.pred.succ.pred (if j < 3 then 3 else 41) [u] = some y ∨ ∃ u k' y, w.cell? ((a.add (i * 4)).add j) = some u ∧ DataW.trod enc Try.prog w base spare held k' (if j < 3 then 3 else 41) [u] = some y := by
      intro i hi j hj
      obtain ⟨cs', h1, h2⟩ := hx i (by omega)
      rw [hC] at h1
      obtain ⟨_, hlen, hcell⟩ := World.cells?_some h1
      obtain ⟨xs, k', _, _, _, hxl, hf⟩ := DataW.trod_struct he h2
      have hfj : fs[j]? = some (fs[j]'(by omega)) := Array.getElem?_eq_getElem (by omega)
      obtain ⟨ho, hc1⟩ := hone_of hone j _ hfj
      have g := hf j _ hfj
      have hT : (fs[j]'(by omega)).type = if j < 3 then 3 else 41 := by
        split
        · exact (hI j _ hfj).1 (by omega)
        · exact (hI j _ hfj).2 (by omega)
      rw [ho, hc1, hT] at g
      have hcj : cs'[j]? = some (cs'[j]'(by omega)) := List.getElem?_eq_getElem (by omega)
      have hdr : (cs'.drop j).take 1 = [cs'[j]'(by omega)] := by
        rw [List.drop_eq_getElem_cons (by omega)]
        rfl
      rw [hdr] at g
      have hxj : xs[j]? = some (xs[j]'(by omega)) := List.getElem?_eq_getElem (by omega)
      rw [hxj] at g
      refine ⟨cs'[j]'(by omega), xs[j]'(by omega), .inr ⟨_, k', _, by rw [hcell j hj, hcj], g⟩⟩
    have each : ∀ (i j : Nat), ∃ N : Int, i < len → j < 3 → w.cell? ((a.add (i * 4)).add j) = some (.int .i64 N) := by
      intro i j
      by_cases hij : i < len ∧ j < 3
      · obtain ⟨u, y, hh⟩ := field i hij.1 j (by omega)
        have hh2 : ∃ u k' y, w.cell? ((a.add (i * 4)).add j) = some u ∧ DataW.trod enc Try.prog w base spare held k' 3 [u] = some y := by
          rcases hh with ⟨h1, h2⟩ | ⟨u, k', y, h1, h2⟩
          · rw [if_pos hij.2] at h2
            exact ⟨u, _, y, h1, h2⟩
          · rw [if_pos hij.2] at h2
            exact ⟨u, k', y, h1, h2⟩
        obtain ⟨u, k', y, h1, h2⟩ := hh2
        obtain ⟨N, e1, _⟩ := DataW.trod_int Try.underlying3 h2
        simp only [List.cons.injEq, and_true] at e1
        exact ⟨N, fun _ _ => by rw [h1, e1]⟩
      · exact ⟨0, fun h1 h2 => absurd ⟨h1, h2⟩ hij⟩
    have row : ∀ i, ∃ q : Option Addr × Nat × List Int, i < len → w.cell? ((a.add (i * 4)).add 3) = some (.slice q.1 q.2.2.length q.2.1) ∧ Sl w .u32 q.1 q.2.2.length (fun t => q.2.2.getD t 0) ∧ (∀ t, t < q.2.2.length → 0 ≤ q.2.2.getD t 0 ∧ q.2.2.getD t 0 < 4294967296) ∧ q.2.2.length ≤ q.2.1 ∧ q.2.2.length ≤ maxLen := by
      intro i
      by_cases hi : i < len
      · obtain ⟨u, y, hh⟩ := field i hi 3 (by omega)
        have hh2 : ∃ u k' y, w.cell? ((a.add (i * 4)).add 3) = some u ∧ DataW.trod enc Try.prog w base spare held k' 41 [u] = some y := by
          rcases hh with ⟨h1, h2⟩ | ⟨u, k', y, h1, h2⟩
          · rw [if_neg (by decide)] at h2
            exact ⟨u, _, y, h1, h2⟩
          · rw [if_neg (by decide)] at h2
            exact ⟨u, k', y, h1, h2⟩
        obtain ⟨u, k', y, h1, h2⟩ := hh2
        obtain ⟨ra, rc, rY, hcs', hs, hw, hle, hmx⟩ := open_rowl h2
        simp only [List.cons.injEq, and_true] at hcs'
        rw [hcs'] at h1
        exact ⟨(ra, rc, rY), fun _ => ⟨h1, hs, hw, hle, hmx⟩⟩
      · exact ⟨(none, 0, []), fun h => absurd h hi⟩
    obtain ⟨X, hX⟩ : ∃ X : Nat → Nat → Int, ∀ i j, i < len → j < 3 → w.cell? ((a.add (i * 4)).add j) = some (.int .i64 (X i j)) := ⟨fun i j => Classical.choose (each i j), fun i j h1 h2 => Classical.choose_spec (each i j) h1 h2⟩
    obtain ⟨g, hg⟩ := Classical.skolem.1 row
    refine ⟨some a, len, cap, X, fun i => (g i).1, fun i => (g i).2.1, fun i => (g i).2.2, hcs, ?_⟩
    by_cases h0 : len = 0
    · exact .inl h0
    · obtain ⟨sb, so, spot⟩ := a
      have hspot : spot = none := by
        have := World.cell?_spot (hX 0 0 (by omega) (by omega))
        simpa [Addr.add] using this
      subst hspot
      refine .inr ⟨sb, so, rfl, fun i hi => ⟨fun j hj => ?_, ?_⟩⟩
      · have h1 := hX i j hi hj
        rw [add_nothing', add_nothing'] at h1
        exact h1
      · have h1 := hg i hi
        rw [add_nothing', add_nothing'] at h1
        exact h1
theorem open_opsc {H : Type} {enc : TypeId × Value → H} {w : World} {base base' : Nat} {spare : Nat → Bool} {held : Bool} {r : Reach} {v : Value} {d : DataW H} {p : List MemPlace}
    (hv : Value.okWide Try.prog w r base' 27 v) (h : DataW.Trod enc Try.prog w base spare held 27 v d p) :
    ∃ (a : Option Addr) (L cap : Nat) (D P H : Nat → Int) (A : Nat → Option Addr) (CP : Nat → Nat) (Y : Nat → List Int), v = .slice a L cap ∧ ScrW w a L D P H A CP Y := by
  obtain ⟨a0, L0, cap0, rfl⟩ := okWide_slice Try.underlying27 hv
  obtain ⟨fuel, hf⟩ := h
  obtain ⟨a, L, cap, X, A, CP, Y, hc, hh⟩ := open_opsG Try.underlying27 Try.underlying43 (by kernel_rfl) (by kernel_rfl) rfl (fun j f hj => by
    match j, hj with
    | 0, hj => simp at hj; rw [← hj]; simp
    | 1, hj => simp at hj; rw [← hj]; simp
    | 2, hj => simp at hj; rw [← hj]; simp
    | 3, hj => simp at hj; rw [← hj]; simp) hf
  have hc' : a0 = a ∧ L0 = L ∧ cap0 = cap := by simpa [Value.cells] using hc
  obtain ⟨rfl, rfl, rfl⟩ := hc'
  refine ⟨a0, L0, cap0, fun i => X i 0, fun i => X i 1, fun i => X i 2, A, CP, Y, rfl, ?_⟩
  rcases hh with h0 | ⟨b, o, e, hall⟩
  · exact .inl h0
  · exact .inr ⟨b, o, e, fun i hi => ⟨⟨(hall i hi).1 0 (by decide), (hall i hi).1 1 (by decide), (hall i hi).1 2 (by decide), (hall i hi).2.1⟩, (hall i hi).2.2⟩⟩
end Go.Proofs.Ytofkgceenppdbaa
