/- A configuration that comes in, opened. -/
import Derived.Test.YtofkgceenppdbaaConf2
import Derived.Test.YtofkgceenppdbaaOpenI
import Derived.Deep.Slices
import Derived.Deep.SlicePairs
import Derived.Lib.SmallJoins
namespace Go.Proofs.Ytofkgceenppdbaa
open Go.ChangeShapes Go.WideShapes Go.ChangeAt Go.RowKit Go.Joins Go.Deep
set_option linter.unusedVariables false
set_option maxRecDepth 100000
theorem wf64 {n : Int} (h : (Lit.int .u64 n).wf = true) : 0 ≤ n ∧ n < 18446744073709551616 := by
  have h1 : IntKind.u64.min = 0 := rfl
  have h2 : IntKind.u64.max = 18446744073709551615 := rfl
  simp only [Lit.wf, Bool.and_eq_true, decide_eq_true_eq] at h
  omega
/-- a row of structs of whole numbers, opened -/
theorem open_rowI {H : Type} {enc : TypeId × Value → H} {w : World} {base : Nat} {spare : Nat → Bool} {held : Bool} {cs : List Value} {x : DataW H × List MemPlace} {fuel : Nat} {t e : TypeId} {fs : Array Field} {k : Nat}
    (ht : Try.prog.underlying t = some (.slice e)) (he : Try.prog.underlying e = some (.struct fs)) (hone : oneCellFields Try.prog fs = true) (hC : Try.prog.cellsOf e = k) (hk : fs.size = k) (hk0 : 0 < k) (hI : ∀ (j : Nat) (f : Field), fs[j]? = some f → f.type = 3)
    (h : DataW.trod enc Try.prog w base spare held fuel t cs = some x) :
    ∃ (a : Option Addr) (L cap : Nat) (X : Nat → Nat → Int), cs = [.slice a L cap] ∧ (L = 0 ∨ ∃ b o, a = some ⟨b, o, none⟩ ∧ ∀ i, i < L → ∀ j, j < k → w.cell? ⟨b, o + i * k + j, none⟩ = some (.int .i64 (X i j))) := by
  rcases open_slice ht h with ⟨hcs, _⟩ | ⟨a, len, cap, m, n, D, Pl, hcs, _, hl, _, hmm, _, hx⟩
  · exact ⟨none, 0, 0, fun _ _ => 0, hcs, .inl rfl⟩
  · have hlm : len ≤ m := by rw [hmm]; split <;> omega
    have each : ∀ (i j : Nat), ∃ N : Int, i < len → j < k → w.cell? ((a.add (i * k)).add j) = some (.int .i64 N) := by
      intro i j
      by_cases hij : i < len ∧ j < k
      · obtain ⟨cs', h1, h2⟩ := hx i (by omega)
        rw [hC] at h1
        obtain ⟨_, hlen, hcell⟩ := World.cells?_some h1
        obtain ⟨xs, k', _, _, _, hxl, hf⟩ := DataW.trod_struct he h2
        have hfj : fs[j]? = some (fs[j]'(by omega)) := Array.getElem?_eq_getElem (by omega)
        obtain ⟨ho, hc1⟩ := hone_of hone j _ hfj
        have g := hf j _ hfj
        rw [ho, hc1, hI j _ hfj] at g
        have hcj : cs'[j]? = some (cs'[j]'(by omega)) := List.getElem?_eq_getElem (by omega)
        have hdr : (cs'.drop j).take 1 = [cs'[j]'(by omega)] := by
          rw [List.drop_eq_getElem_cons (by omega)]
          rfl
        rw [hdr] at g
        have hxj : xs[j]? = some (xs[j]'(by omega)) := List.getElem?_eq_getElem (by omega)
        rw [hxj] at g
        obtain ⟨N, e1, _⟩ := DataW.trod_int Try.underlying3 g
        simp only [List.cons.injEq, and_true] at e1
        exact ⟨N, fun _ _ => by rw [hcell j hij.2, hcj, e1]⟩
      · exact ⟨0, fun h1 h2 => absurd ⟨h1, h2⟩ hij⟩
    obtain ⟨X, hX⟩ : ∃ X : Nat → Nat → Int, ∀ i j, i < len → j < k → w.cell? ((a.add (i * k)).add j) = some (.int .i64 (X i j)) := ⟨fun i j => Classical.choose (each i j), fun i j h1 h2 => Classical.choose_spec (each i j) h1 h2⟩
    refine ⟨some a, len, cap, X, hcs, ?_⟩
    by_cases h0 : len = 0
    · exact .inl h0
    · obtain ⟨sb, so, spot⟩ := a
      have hspot : spot = none := by
        have := World.cell?_spot (hX 0 0 (by omega) hk0)
        simpa [Addr.add] using this
      subst hspot
      refine .inr ⟨sb, so, rfl, fun i hi j hj => ?_⟩
      have h1 := hX i j hi hj
      rw [add_nothing, add_nothing] at h1
      exact h1
theorem open_cfg {H : Type} {enc : TypeId × Value → H} {w : World} {base base' : Nat} {spare : Nat → Bool} {held : Bool} {r : Reach} {v : Value} {d : DataW H} {p : List MemPlace}
    (hv : Value.okWide Try.prog w r base' 26 v) (h : DataW.Trod enc Try.prog w base spare held 26 v d p) :
    ∃ (C : Cfg) (ly : Lay), v = .agg (cfgV C ly) ∧ IsC w C ly := by
  obtain ⟨v0, v1, v2, y0, y1, y2, n, rfl, _, _, t0, t1, t2⟩ := open_agg3 Try.underlying26 (by kernel_rfl) (by kernel_rfl) hv h
  obtain ⟨a0, L0, c0, X0, e0, h0⟩ := open_rowI (k := 2) Try.underlying22 Try.underlying94 (by kernel_rfl) (by kernel_rfl) rfl (by decide) (fun j f hj => by
    match j, hj with
    | 0, hj => simp at hj; rw [← hj]
    | 1, hj => simp at hj; rw [← hj]) t0
  obtain ⟨a1, L1, c1, X1, e1, h1⟩ := open_rowI (k := 2) Try.underlying23 Try.underlying107 (by kernel_rfl) (by kernel_rfl) rfl (by decide) (fun j f hj => by
    match j, hj with
    | 0, hj => simp at hj; rw [← hj]
    | 1, hj => simp at hj; rw [← hj]) t1
  obtain ⟨a2, L2, c2, X2, e2, h2⟩ := open_rowI (k := 4) Try.underlying24 Try.underlying53 (by kernel_rfl) (by kernel_rfl) rfl (by decide) (fun j f hj => by
    match j, hj with
    | 0, hj => simp at hj; rw [← hj]
    | 1, hj => simp at hj; rw [← hj]
    | 2, hj => simp at hj; rw [← hj]
    | 3, hj => simp at hj; rw [← hj]) t2
  simp only [List.cons.injEq, and_true] at e0 e1 e2
  subst e0 e1 e2
  refine ⟨⟨L0, L1, L2, fun i => X0 i 0, fun i => X0 i 1, fun i => X1 i 0, fun i => X1 i 1, fun i => X2 i 0, fun i => X2 i 1, fun i => X2 i 2, fun i => X2 i 3⟩, ⟨a0, c0, a1, c1, a2, c2⟩, rfl, ⟨?_, ?_, ?_⟩⟩
  · rcases h0 with h0 | ⟨b, o, e, hc⟩
    · exact .inl h0
    · exact .inr ⟨b, o, e, fun i hi => ⟨by simpa using hc i hi 0 (by decide), hc i hi 1 (by decide)⟩⟩
  · rcases h1 with h0 | ⟨b, o, e, hc⟩
    · exact .inl h0
    · exact .inr ⟨b, o, e, fun i hi => ⟨by simpa using hc i hi 0 (by decide), hc i hi 1 (by decide)⟩⟩
  · rcases h2 with h0 | ⟨b, o, e, hc⟩
    · exact .inl h0
    · exact .inr ⟨b, o, e, fun i hi => ⟨by simpa using hc i hi 0 (by decide), hc i hi 1 (by decide), hc i hi 2 (by decide), hc i hi 3 (by decide)⟩⟩
end Go.Proofs.Ytofkgceenppdbaa
