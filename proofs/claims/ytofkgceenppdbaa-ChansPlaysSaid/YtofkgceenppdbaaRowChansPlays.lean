/- The law ChansPlays answers true at every input that the row speaks of, and leaves its arguments as they were. No condition of its own. -/
import Derived.Test.YtofkgceenppdbaaRows
import Derived.Test.YtofkgceenppdbaaLPlay
import Derived.WalkKit
import Derived.ProofKit
import Derived.OpenShut
import Derived.ShutString
import Derived.ChangeOld
import Derived.Below
import Derived.SizedLaws
import Derived.Lib.SmallJoins
import Derived.Test.YtofkgceenppdbaaConf2
import Derived.Test.YtofkgceenppdbaaOpenI
import Derived.Deep.Slices
import Derived.Deep.SlicePairs
import Derived.Test.YtofkgceenppdbaaOpenR
import Derived.Test.YtofkgceenppdbaaLScr
namespace Go.Proofs.Ytofkgceenppdbaa
open Go.ChangeShapes Go.WideShapes Go.ChangeAt Go.RowKit Go.Joins Go.Deep
set_option linter.unusedVariables false
set_option maxRecDepth 100000
theorem wf64 {n : Int} (h : (Lit.int .u64 n).wf = true) : 0 ≤ n ∧ n < 18446744073709551616 := by
  have h1 : IntKind.u64.min = 0 := rfl
  have h2 : IntKind.u64.max = 18446744073709551615 := rfl
  simp only [Lit.wf, Bool.and_eq_true, decide_eq_true_eq] at h
  omega
/-- a row of structs of whole numbers, opened -/
theorem open_rowI {H : Type} {enc : TypeId × Value → H} {w : World} {base : Nat} {spare : Nat → Bool} {held : Bool} {cs : List Value} {x : DataW H × List MemPlace} {fuel : Nat} {t e : TypeId} {fs : Array Field} {k : Nat}
    (ht : Try.prog.underlying t = some (.slice e)) (he : Try.prog.underlying e = some (.struct fs)) (hone : oneCellFields Try.prog fs = true) (hC : Try.prog.cellsOf e = k) (hk : fs.size = k) (hk0 : 0 < k) (hI : ∀ (j : Nat) (f : Field), fs[j]? = some f → f.type = 3)
    (h : DataW.trod enc Try.prog w base spare held fuel t cs = some x) :
    ∃ (a : Option Addr) (L cap : Nat) (X : Nat → Nat → Int), cs = [.slice a L cap] ∧ (L = 0 ∨ ∃ b o, a = some ⟨b, o, none⟩ ∧ ∀ i, i < L → ∀ j, j < k → w.cell? ⟨b, o + i * k + j, none⟩ = some (.int .i64 (X i j))) := by
  rcases open_slice ht h with ⟨hcs, _⟩ | ⟨a, len, cap, m, n, D, Pl, hcs, _, hl, _, hmm, _, hx⟩
  · exact ⟨none, 0, 0, fun _ _ => 0, hcs, .inl rfl⟩
  · have hlm : len ≤ m := by rw [hmm]; split <;> omega
    have each : ∀ (i j : Nat), ∃ N : Int, i < len → j < k → w.cell? ((a.add (i * k)).add j) = some (.int .i64 N) := by
      intro i j
      by_cases hij : i < len ∧ j < k
      · obtain ⟨cs', h1, h2⟩ := hx i (by omega)
        rw [hC] at h1
        obtain ⟨_, hlen, hcell⟩ := World.cells?_some h1
        obtain ⟨xs, k', _, _, _, hxl, hf⟩ := DataW.trod_struct he h2
        have hfj : fs[j]? = some (fs[j]'(by omega)) := Array.getElem?_eq_getElem (by omega)
        obtain ⟨ho, hc1⟩ := hone_of hone j _ hfj
        have g := hf j _ hfj
        rw [ho, hc1, hI j _ hfj] at g
        have hcj : cs'[j]? = some (cs'[j]'(by omega)) := List.getElem?_eq_getElem (by omega)
        have hdr : (cs'.drop j).take 1 = [cs'[j]'(by omega)] := by
          rw [List.drop_eq_getElem_cons (by omega)]
          rfl
        rw [hdr] at g
        have hxj : xs[j]? = some (xs[j]'(by omega)) := List.getElem?_eq_getElem (by omega)
        rw [hxj] at g
        obtain ⟨N, e1, _⟩ := DataW.trod_int Try.underlying3 g
        simp only [List.cons.injEq, and_true] at e1
        exact ⟨N, fun _ _ => by rw [hcell j hij.2, hcj, e1]⟩
      · exact ⟨0, fun h1 h2 => absurd ⟨h1, h2⟩ hij⟩
    obtain ⟨X, hX⟩ : ∃ X : Nat → Nat → Int, ∀ i j, i < len → j < k → w.cell? ((a.add (i * k)).add j) = some (.int .i64 (X i j)) := ⟨fun i j => Classical.choose (each i j), fun i j h1 h2 => Classical.choose_spec (each i j) h1 h2⟩
    refine ⟨some a, len, cap, X, hcs, ?_⟩
    by_cases h0 : len = 0
    · exact .inl h0
    · obtain ⟨sb, so, spot⟩ := a
      have hspot : spot = none := by
        have := World.cell?_spot (hX 0 0 (by omega) hk0)
        simpa [Addr.add] using this
      subst hspot
      refine .inr ⟨sb, so, rfl, fun i hi j hj => ?_⟩
      have h1 := hX i j hi hj
      rw [add_nothing, add_nothing] at h1
      exact h1
theorem open_cfg {H : Type} {enc : TypeId × Value → H} {w : World} {base base' : Nat} {spare : Nat → Bool} {held : Bool} {r : Reach} {v : Value} {d : DataW H} {p : List MemPlace}
    (hv : Value.okWide Try.prog w r base' 26 v) (h : DataW.Trod enc Try.prog w base spare held 26 v d p) :
    ∃ (C : Cfg) (ly : Lay), v = .agg (cfgV C ly) ∧ IsC w C ly := by
  obtain ⟨v0, v1, v2, y0, y1, y2, n, rfl, _, _, t0, t1, t2⟩ := open_agg3 Try.underlying26 (by kernel_rfl) (by kernel_rfl) hv h
  obtain ⟨a0, L0, c0, X0, e0, h0⟩ := open_rowI (k := 2) Try.underlying22 Try.underlying94 (by kernel_rfl) (by kernel_rfl) rfl (by decide) (fun j f hj => by
    match j, hj with
    | 0, hj => simp at hj; rw [← hj]
    | 1, hj => simp at hj; rw [← hj]) t0
  obtain ⟨a1, L1, c1, X1, e1, h1⟩ := open_rowI (k := 2) Try.underlying23 Try.underlying107 (by kernel_rfl) (by kernel_rfl) rfl (by decide) (fun j f hj => by
    match j, hj with
    | 0, hj => simp at hj; rw [← hj]
    | 1, hj => simp at hj; rw [← hj]) t1
  obtain ⟨a2, L2, c2, X2, e2, h2⟩ := open_rowI (k := 4) Try.underlying24 Try.underlying53 (by kernel_rfl) (by kernel_rfl) rfl (by decide) (fun j f hj => by
    match j, hj with
    | 0, hj => simp at hj; rw [← hj]
    | 1, hj => simp at hj; rw [← hj]
    | 2, hj => simp at hj; rw [← hj]
    | 3, hj => simp at hj; rw [← hj]) t2
  simp only [List.cons.injEq, and_true] at e0 e1 e2
  subst e0 e1 e2
  refine ⟨⟨L0, L1, L2, fun i => X0 i 0, fun i => X0 i 1, fun i => X1 i 0, fun i => X1 i 1, fun i => X2 i 0, fun i => X2 i 1, fun i => X2 i 2, fun i => X2 i 3⟩, ⟨a0, c0, a1, c1, a2, c2⟩, rfl, ⟨?_, ?_, ?_⟩⟩
  · rcases h0 with h0 | ⟨b, o, e, hc⟩
    · exact .inl h0
    · exact .inr ⟨b, o, e, fun i hi => ⟨by simpa using hc i hi 0 (by decide), hc i hi 1 (by decide)⟩⟩
  · rcases h1 with h0 | ⟨b, o, e, hc⟩
    · exact .inl h0
    · exact .inr ⟨b, o, e, fun i hi => ⟨by simpa using hc i hi 0 (by decide), hc i hi 1 (by decide)⟩⟩
  · rcases h2 with h0 | ⟨b, o, e, hc⟩
    · exact .inl h0
    · exact .inr ⟨b, o, e, fun i hi => ⟨by simpa using hc i hi 0 (by decide), hc i hi 1 (by decide), hc i hi 2 (by decide), hc i hi 3 (by decide)⟩⟩
end Go.Proofs.Ytofkgceenppdbaa
namespace Go.Proofs.Ytofkgceenppdbaa
open Go.ChangeShapes Go.WideShapes Go.ChangeAt Go.RowKit Go.Joins Go.Deep
set_option linter.unusedVariables false
set_option maxRecDepth 100000
theorem open_opsG {H : Type} {enc : TypeId × Value → H} {w : World} {base : Nat} {spare : Nat → Bool} {held : Bool} {cs : List Value} {x : DataW H × List MemPlace} {fuel : Nat} {t e : TypeId} {fs : Array Field}
    (ht : Try.prog.underlying t = some (.slice e)) (he : Try.prog.underlying e = some (.struct fs)) (hone : oneCellFields Try.prog fs = true) (hC : Try.prog.cellsOf e = 4) (hk : fs.size = 4) (hI : ∀ (j : Nat) (f : Field), fs[j]? = some f → (j < 3 → f.type = 3) ∧ (j = 3 → f.type = 41))
    (h : DataW.trod enc Try.prog w base spare held fuel t cs = some x) :
    ∃ (a : Option Addr) (L cap : Nat) (X : Nat → Nat → Int) (A : Nat → Option Addr) (CP : Nat → Nat) (Y : Nat → List Int), cs = [.slice a L cap] ∧ (L = 0 ∨ ∃ b o, a = some ⟨b, o, none⟩ ∧ ∀ i, i < L → (∀ j, j < 3 → w.cell? ⟨b, o + i * 4 + j, none⟩ = some (.int .i64 (X i j))) ∧ w.cell? ⟨b, o + i * 4 + 3, none⟩ = some (.slice (A i) (Y i).length (CP i)) ∧
      Sl w .u32 (A i) (Y i).length (fun t => (Y i).getD t 0) ∧ (∀ t, t < (Y i).length → 0 ≤ (Y i).getD t 0 ∧ (Y i).getD t 0 < 4294967296) ∧ (Y i).length ≤ CP i ∧ (Y i).length ≤ maxLen) := by
  rcases open_slice ht h with ⟨hcs, _⟩ | ⟨a, len, cap, m, n, D, Pl, hcs, _, hl, _, hmm, _, hx⟩
  · exact ⟨none, 0, 0, fun _ _ => 0, fun _ => none, fun _ => 0, fun _ => [], hcs, .inl rfl⟩
  · have hlm : len ≤ m := by rw [hmm]; split <;> omega
    have field : ∀ i, i < len → ∀ j, j < 4 → ∃ u y, w.cell? ((a.add (i * 4)).add j) = some u ∧ DataW.trod enc Try.prog w base spare held n.pred.succ.pred (if j < 3 then 3 else 41) [u] = some y ∨ ∃ u k' y, w.cell? ((a.add (i * 4)).add j) = some u ∧ DataW.trod enc Try.prog w base spare held k' (if j < 3 then 3 else 41) [u] = some y := by
      intro i hi j hj
      obtain ⟨cs', h1, h2⟩ := hx i (by omega)
      rw [hC] at h1
      obtain ⟨_, hlen, hcell⟩ := World.cells?_some h1
      obtain ⟨xs, k', _, _, _, hxl, hf⟩ := DataW.trod_struct he h2
      have hfj : fs[j]? = some (fs[j]'(by omega)) := Array.getElem?_eq_getElem (by omega)
      obtain ⟨ho, hc1⟩ := hone_of hone j _ hfj
      have g := hf j _ hfj
      have hT : (fs[j]'(by omega)).type = if j < 3 then 3 else 41 := by
        split
        · exact (hI j _ hfj).1 (by omega)
        · exact (hI j _ hfj).2 (by omega)
      rw [ho, hc1, hT] at g
      have hcj : cs'[j]? = some (cs'[j]'(by omega)) := List.getElem?_eq_getElem (by omega)
      have hdr : (cs'.drop j).take 1 = [cs'[j]'(by omega)] := by
        rw [List.drop_eq_getElem_cons (by omega)]
        rfl
      rw [hdr] at g
      have hxj : xs[j]? = some (xs[j]'(by omega)) := List.getElem?_eq_getElem (by omega)
      rw [hxj] at g
      refine ⟨cs'[j]'(by omega), xs[j]'(by omega), .inr ⟨_, k', _, by rw [hcell j hj, hcj], g⟩⟩
    have each : ∀ (i j : Nat), ∃ N : Int, i < len → j < 3 → w.cell? ((a.add (i * 4)).add j) = some (.int .i64 N) := by
      intro i j
      by_cases hij : i < len ∧ j < 3
      · obtain ⟨u, y, hh⟩ := field i hij.1 j (by omega)
        have hh2 : ∃ u k' y, w.cell? ((a.add (i * 4)).add j) = some u ∧ DataW.trod enc Try.prog w base spare held k' 3 [u] = some y := by
          rcases hh with ⟨h1, h2⟩ | ⟨u, k', y, h1, h2⟩
          · rw [if_pos hij.2] at h2
            exact ⟨u, _, y, h1, h2⟩
          · rw [if_pos hij.2] at h2
            exact ⟨u, k', y, h1, h2⟩
        obtain ⟨u, k', y, h1, h2⟩ := hh2
        obtain ⟨N, e1, _⟩ := DataW.trod_int Try.underlying3 h2
        simp only [List.cons.injEq, and_true] at e1
        exact ⟨N, fun _ _ => by rw [h1, e1]⟩
      · exact ⟨0, fun h1 h2 => absurd ⟨h1, h2⟩ hij⟩
    have row : ∀ i, ∃ q : Option Addr × Nat × List Int, i < len → w.cell? ((a.add (i * 4)).add 3) = some (.slice q.1 q.2.2.length q.2.1) ∧ Sl w .u32 q.1 q.2.2.length (fun t => q.2.2.getD t 0) ∧ (∀ t, t < q.2.2.length → 0 ≤ q.2.2.getD t 0 ∧ q.2.2.getD t 0 < 4294967296) ∧ q.2.2.length ≤ q.2.1 ∧ q.2.2.length ≤ maxLen := by
      intro i
      by_cases hi : i < len
      · obtain ⟨u, y, hh⟩ := field i hi 3 (by omega)
        have hh2 : ∃ u k' y, w.cell? ((a.add (i * 4)).add 3) = some u ∧ DataW.trod enc Try.prog w base spare held k' 41 [u] = some y := by
          rcases hh with ⟨h1, h2⟩ | ⟨u, k', y, h1, h2⟩
          · rw [if_neg (by decide)] at h2
            exact ⟨u, _, y, h1, h2⟩
          · rw [if_neg (by decide)] at h2
            exact ⟨u, k', y, h1, h2⟩
        obtain ⟨u, k', y, h1, h2⟩ := hh2
        obtain ⟨ra, rc, rY, hcs', hs, hw, hle, hmx⟩ := open_rowl h2
        simp only [List.cons.injEq, and_true] at hcs'
        rw [hcs'] at h1
        exact ⟨(ra, rc, rY), fun _ => ⟨h1, hs, hw, hle, hmx⟩⟩
      · exact ⟨(none, 0, []), fun h => absurd h hi⟩
    obtain ⟨X, hX⟩ : ∃ X : Nat → Nat → Int, ∀ i j, i < len → j < 3 → w.cell? ((a.add (i * 4)).add j) = some (.int .i64 (X i j)) := ⟨fun i j => Classical.choose (each i j), fun i j h1 h2 => Classical.choose_spec (each i j) h1 h2⟩
    obtain ⟨g, hg⟩ := Classical.skolem.1 row
    refine ⟨some a, len, cap, X, fun i => (g i).1, fun i => (g i).2.1, fun i => (g i).2.2, hcs, ?_⟩
    by_cases h0 : len = 0
    · exact .inl h0
    · obtain ⟨sb, so, spot⟩ := a
      have hspot : spot = none := by
        have := World.cell?_spot (hX 0 0 (by omega) (by omega))
        simpa [Addr.add] using this
      subst hspot
      refine .inr ⟨sb, so, rfl, fun i hi => ⟨fun j hj => ?_, ?_⟩⟩
      · have h1 := hX i j hi hj
        rw [add_nothing', add_nothing'] at h1
        exact h1
      · have h1 := hg i hi
        rw [add_nothing', add_nothing'] at h1
        exact h1
theorem open_opsc {H : Type} {enc : TypeId × Value → H} {w : World} {base base' : Nat} {spare : Nat → Bool} {held : Bool} {r : Reach} {v : Value} {d : DataW H} {p : List MemPlace}
    (hv : Value.okWide Try.prog w r base' 27 v) (h : DataW.Trod enc Try.prog w base spare held 27 v d p) :
    ∃ (a : Option Addr) (L cap : Nat) (D P H : Nat → Int) (A : Nat → Option Addr) (CP : Nat → Nat) (Y : Nat → List Int), v = .slice a L cap ∧ ScrW w a L D P H A CP Y := by
  obtain ⟨a0, L0, cap0, rfl⟩ := okWide_slice Try.underlying27 hv
  obtain ⟨fuel, hf⟩ := h
  obtain ⟨a, L, cap, X, A, CP, Y, hc, hh⟩ := open_opsG Try.underlying27 Try.underlying43 (by kernel_rfl) (by kernel_rfl) rfl (fun j f hj => by
    match j, hj with
    | 0, hj => simp at hj; rw [← hj]; simp
    | 1, hj => simp at hj; rw [← hj]; simp
    | 2, hj => simp at hj; rw [← hj]; simp
    | 3, hj => simp at hj; rw [← hj]; simp) hf
  have hc' : a0 = a ∧ L0 = L ∧ cap0 = cap := by simpa [Value.cells] using hc
  obtain ⟨rfl, rfl, rfl⟩ := hc'
  refine ⟨a0, L0, cap0, fun i => X i 0, fun i => X i 1, fun i => X i 2, A, CP, Y, rfl, ?_⟩
  rcases hh with h0 | ⟨b, o, e, hall⟩
  · exact .inl h0
  · exact .inr ⟨b, o, e, fun i hi => ⟨⟨(hall i hi).1 0 (by decide), (hall i hi).1 1 (by decide), (hall i hi).1 2 (by decide), (hall i hi).2.1⟩, (hall i hi).2.2⟩⟩
end Go.Proofs.Ytofkgceenppdbaa
namespace Go.Proofs.Ytofkgceenppdbaa.chansPlays
open Go.ChangeShapes Go.WideShapes Go.ChangeAt Go.RowKit Go.Joins
open Go.ChangeMaps (open_string shut_string)
set_option linter.unusedVariables false
theorem own : ownKnob Try.prog.godebug = none := by kernel_rfl
theorem laidOut : laidOutB Try.prog = true := by kernel_rfl
set_option maxRecDepth 100000 in
set_option maxHeartbeats 1000000 in
theorem lifted (os : Os) (started : os.Started) (H : Type) (enc : TypeId × Value → H) :
    ReturnsInHanded {} Try.checked os 6 .any (Rows.chansPlaysSpec.pre6 enc Try.prog Try.f6 Rows.chansPlaysRow.domain false) (Rows.chansPlaysSpec.post enc Try.prog Try.f6 false true false false) := by
  refine returnsInHanded_of_change_sized (C := Try.checked) own started (by kernel_rfl) Try.func6
    (ChangeSpec.witness6 (enc := enc) (C := Try.checked) false ⟨#[], #[.agg #[.slice none 0 0, .slice none 0 0, .slice none 0 0], .int .i64 0, .slice none 0 0], []⟩ 8 (by kernel_rfl) (by kernel_rfl) (by kernel_rfl) (by kernel_rfl)) ?_
  intro W base args ds gs before hval0 hW hcnd hsz0 _
  have hsz : (DataW.weightsEach Try.prog (Try.f6.params.toList ++ Rows.chansPlaysSpec.plain.varTypes Try.prog) (ds ++ gs)).all (· ≤ reachBytes) = true := hsz0
  have hval : ∀ (j : Nat) t v, Try.f6.params[j]? = some t → args[j]? = some v → Value.okWide Try.prog W .any base t v := hval0
  have hW' := hW
  obtain ⟨p, q, hA0, hV, rfl, hfz, hnd⟩ := hW
  have hA : DataW.TrodAll enc Try.prog W 0 (fun _ => true) true Try.f6.params.toList args.toList ds p := hA0
  rw [Try.params6] at hA hval hsz
  obtain ⟨v0, vs0, d0, ds0, p0, q0, hargs, rfl, rfl, h0, r0⟩ := trodAll_cons hA
  obtain ⟨v1, vs1, d1, ds1, p1, q1, rfl, rfl, rfl, h1, r1⟩ := trodAll_cons r0
  obtain ⟨v2, vs2, d2, ds2, p2, q2, rfl, rfl, rfl, h2, r2⟩ := trodAll_cons r1
  obtain ⟨rfl, rfl, rfl⟩ := trodAll_nil r2
  obtain rfl : args = #[v0, v1, v2] := by cases args; simp_all
  obtain ⟨rfl, rfl⟩ := trodVars_none hV
  have k0 := h0
  have lt0 : ∀ x ∈ p0, x.block < W.heap.size := by obtain ⟨m, hm⟩ := k0; exact DataW.trod_lt m _ _ _ hm
  obtain ⟨C0, L0, rfl, hI0⟩ := open_cfg (hval 0 26 v0 rfl rfl) h0
  have k1 := h1
  have lt1 : ∀ x ∈ p1, x.block < W.heap.size := by obtain ⟨m, hm⟩ := k1; exact DataW.trod_lt m _ _ _ hm
  obtain ⟨a1, rfl, hd1, hp1, w1⟩ := open_int Try.underlying3 (hval 1 3 v1 rfl rfl) h1
  have k2 := h2
  have lt2 : ∀ x ∈ p2, x.block < W.heap.size := by obtain ⟨m, hm⟩ := k2; exact DataW.trod_lt m _ _ _ hm
  obtain ⟨a2, L2, cap2, D2, P2, H2, A2, CP2, Y2, rfl, hR2⟩ := open_opsc (hval 2 27 v2 rfl rfl) h2
  clear hA0 hval0 hsz0 hsz
  refine (ChansPlays_any C0 L0 a1 a2 L2 cap2 D2 P2 H2 A2 CP2 Y2 W hI0 hR2).mono fun e W' ⟨he, bel⟩ => ?_
  subst he
  exact ⟨_, rfl, _, _, _, [], _, [], hW', trodAll_mk1 (shut_bool Try.underlying4 _), (trodAll_cons_mk (Below.trod laidOut (by kernel_rfl) (of_decide_eq_true (by kernel_rfl)) k0 bel lt0) (trodAll_cons_mk (Below.trod laidOut (by kernel_rfl) (of_decide_eq_true (by kernel_rfl)) k1 bel lt1) (trodAll_cons_mk (Below.trod laidOut (by kernel_rfl) (of_decide_eq_true (by kernel_rfl)) k2 bel lt2) trodAll_mk0))), rfl, bel.frame _, fun h => by cases h⟩
theorem over : Rows.chansPlaysRow.holds Try.pinned (OpenSpec.ofChange Rows.chansPlaysSpec) :=
  OpenClaim.holds_of_wide 6 Try.f6 rfl rfl rfl rfl rfl rfl rfl ⟨rfl, rfl, rfl, rfl, rfl⟩ rfl rfl rfl rfl rfl (by kernel_rfl) Try.func6 (by kernel_rfl)
    (of_decide_eq_true (by kernel_rfl)) (by unfold Func.isWrapper; first | (rw [if_pos (by decide +kernel)]; kernel_rfl) | (rw [if_neg (by decide +kernel)]; exact ⟨rfl, rfl⟩))
    (fun os started H enc _ => lifted os started H enc)
theorem proved : Rows.ChansPlaysSaid := over
end Go.Proofs.Ytofkgceenppdbaa.chansPlays
namespace Go.Proofs.Ytofkgceenppdbaa
/-- The row, under a short name, for the claim. -/
theorem chansPlays_holds : Rows.ChansPlaysSaid := chansPlays.proved
end Go.Proofs.Ytofkgceenppdbaa
