/- The reference's New of channels. -/
import Derived.Test.YtofkgceenppdbaaRX2
import Derived.Deep.RegionWith
namespace Go.Proofs.Ytofkgceenppdbaa
open Go.RowKit
set_option linter.unusedVariables false
set_option linter.unusedSimpArgs false
theorem below4 {a w : World} (h : Below a.heap.size a w) (x y z u : Value) : Below a.heap.size a ((((w.setCell ⟨a.heap.size, 0, none⟩ x).setCell ⟨a.heap.size, 1, none⟩ y).setCell ⟨a.heap.size, 2, none⟩ z).setCell ⟨a.heap.size, 3, none⟩ u) :=
  (((h.setCell (p := ⟨a.heap.size, 0, none⟩) (Nat.le_refl _) _).setCell (p := ⟨a.heap.size, 1, none⟩) (Nat.le_refl _) _).setCell (p := ⟨a.heap.size, 2, none⟩) (Nat.le_refl _) _).setCell (p := ⟨a.heap.size, 3, none⟩) (Nat.le_refl _) _
/-- under way -/
structure RN (C : Cfg) (pP pW pC : Option Addr) (cP cW cC : Nat) (w W : World) (k : Nat) (v : Value) : Prop where
  b : Below w.heap.size w W
  c : W.heap[w.heap.size]? = some (.cells #[.slice pP C.nP cP, .slice pW C.nW cW, .slice pC C.nC cC] 26 (0, 0))
  r : W.heap[w.heap.size + 1]? = some (.cells #[.slice none 0 0, .slice none 0 0] 61 (0, 0))
  x : W.heap[w.heap.size + 1 + 1]? = some (.cells #[.slice pC C.nC cC, v] 61 (0, 0))
  o : W.ownsRow (w.heap.size + 1 + 1 + 1) 99 4 v k (flat 4 (rf0 C) k)
section
variable {C : Cfg} {pP pW pC : Option Addr} {cP cW cC : Nat} {w W W' : World} {k : Nat} {v v' : Value}
theorem RN.below (h : RN C pP pW pC cP cW cC w W k v) (hb : Below W.heap.size W W') : RN C pP pW pC cP cW cC w W' k v :=
  ⟨bstep h.b hb, bk_below h.c hb, bk_below h.r hb, bk_below h.x hb, own_kept h.o (Kept.of_below (g := 0) hb) (by omega)⟩
theorem RN.cells (h : RN C pP pW pC cP cW cC w W k v) : W.cell? ⟨w.heap.size, 0, none⟩ = some (.slice pP C.nP cP) ∧ W.cell? ⟨w.heap.size, 1, none⟩ = some (.slice pW C.nW cW) ∧ W.cell? ⟨w.heap.size, 2, none⟩ = some (.slice pC C.nC cC) ∧
    W.cell? ⟨w.heap.size + 1 + 1, 0, none⟩ = some (.slice pC C.nC cC) ∧ W.cell? ⟨w.heap.size + 1 + 1, 1, none⟩ = some v ∧ W.frozen? ⟨w.heap.size + 1 + 1, 1, none⟩ = false ∧ w.heap.size + 1 + 1 < W.heap.size :=
  ⟨(bk_cell h.c 0).trans rfl, (bk_cell h.c 1).trans rfl, (bk_cell h.c 2).trans rfl, (bk_cell h.x 0).trans rfl, (bk_cell h.x 1).trans rfl, bk_frozen h.x 1, bk_lt h.x⟩
theorem RN.app (h : RN C pP pW pC cP cW cC w W k v) (hb : Below (w.heap.size + 1 + 1 + 1) W W') (ho : W'.ownsRow (w.heap.size + 1 + 1 + 1) 99 4 v' (k + 1) (flat 4 (rf0 C) k ++ [.int .i64 (C.cc k), .int .i64 (C.cw k), .slice none 0 0, .int .i64 0])) : RN C pP pW pC cP cW cC w (W'.setCell ⟨w.heap.size + 1 + 1, 1, none⟩ v') (k + 1) v' := by
  have hb2 : Below (w.heap.size + 1 + 1) W (W'.setCell ⟨w.heap.size + 1 + 1, 1, none⟩ v') := (hb.mono (show w.heap.size + 1 + 1 ≤ w.heap.size + 1 + 1 + 1 by omega)).setCell (p := ⟨w.heap.size + 1 + 1, 1, none⟩) (Nat.le_refl _) _
  have hx := bk_lt h.x
  refine ⟨h.b.trans (hb2.mono (by omega)), (hb2.block _ (by omega)).trans h.c, (hb2.block _ (by omega)).trans h.r, bk_set ((hb.block _ (by omega)).trans h.x) 1 v', ?_⟩
  have e : flat 4 (rf0 C) (k + 1) = flat 4 (rf0 C) k ++ [.int .i64 (C.cc k), .int .i64 (C.cw k), .slice none 0 0, .int .i64 0] := by
    rw [flat_succ (by decide)]
    rfl
  rw [e]
  exact own_set ho (by omega) 1 _
end
set_option maxHeartbeats 4000000 in
theorem rxnew_any (C : Cfg) (pP pW pC : Option Addr) (cP cW cC : Nat) (w : World) (hC : Sl4 w pC C.nC C.cf C.ct C.cc C.cw) (hok : CkOk C) :
    Calls Try.prog 23 #[.agg #[.slice pP C.nP cP, .slice pW C.nW cW, .slice pC C.nC cC]] w fun e w' => ∃ p cap, e = .returned (.agg #[.slice pC C.nC cC, .slice p C.nC cap]) ∧ SlF w' 4 p C.nC (rf0 C) ∧ (∀ b o, p = some ⟨b, o, none⟩ → w.heap.size + 1 ≤ b ∧ o = 0) ∧ (p = none → C.nC = 0 ∧ cap = 0) ∧ C.nC ≤ cap ∧ Below w.heap.size w w' := by
  have HC := Lib.hid hC
  have hn16 := hok.1.N.2.2.2.2
  have HNR := Lib.hid fun (W : World) (i : Nat) (hi : i < C.nC) => show Calls Try.prog 48 #[.int .i64 (C.cc i), .int .i64 (C.cw i)] W fun e w' => e = .returned (.tuple #[.agg #[.int .i64 (C.cc i), .int .i64 (C.cw i), .slice none 0 0, .int .i64 0], .int .i64 0]) ∧ Below W.heap.size W w' from by
    obtain ⟨h1, h2, h3, h4, h5, h6⟩ := cN_eq hok hi
    rw [← h1, ← h2]
    exact rnew_ok _ _ W h3 h4 h5 h6
  clear hC
  go_enter Try.func23, Try.ntmps23
  go_wp2_with fail
  go_loopw [4] (fun iv W' => ∃ (k : Nat) (v : Value), k ≤ C.nC ∧ iv = .int .i64 k ∧ RN C pP pW pC cP cW cC w W' k v) (fun iv _ => C.nC - (intOf iv).toNat)
  case atStart =>
    have e1 := bk_new (w.alloc (.cells #[.slice pP C.nP cP, .slice pW C.nW cW, .slice pC C.nC cC] 26)) (.cells #[.slice none 0 0, .slice none 0 0] 61)
    have e2 := bk_new ((w.alloc (.cells #[.slice pP C.nP cP, .slice pW C.nW cW, .slice pC C.nC cC] 26)).alloc (.cells #[.slice none 0 0, .slice none 0 0] 61)) (.cells #[.slice pC C.nC cC, .slice none 0 0] 61)
    rw [World.size_alloc] at e1
    rw [World.size_alloc, World.size_alloc] at e2
    exact ⟨0, .slice none 0 0, by omega, rfl, by go_grown, bk_alloc (bk_alloc (bk_new w _) _) _, bk_alloc e1 _, e2, by rw [flat_zero]; exact own_nil⟩
  case round =>
    obtain ⟨k, v, hk, rfl, hrn⟩ := hrel
    have HRN := Lib.hid hrn
    obtain ⟨y0, y1, y2, x0, x1, x2, x3⟩ := hrn.cells
    clear hrn
    by_cases hkn : k < C.nC
    · have hkn' : (k : Int) < C.nC := by omega
      rcases HC.out with h0 | ⟨b, o, rfl, hc⟩
      · omega
      have d2 := keepc HRN.out.b (hc k hkn).2.2.1
      have d3 := keepc HRN.out.b (hc k hkn).2.2.2
      clear hc
      go_wp2_with fail
      refine wp_region_held_drew (S := (fun W' => Below wr.heap.size wr W')) (by kernel_rfl) ?_ (fun hHeld => ?_)
      · exact bdrew (Below.refl wr.heap.size wr)
      refine wpAnyH_take (i := 0) (v := ?_) rfl (by kernel_rfl) (by kernel_rfl) (by kernel_rfl) (fun _ _ _ h => h) (Or.inl ⟨by rfl, ?_⟩) (by assumption) ?_
      rotate_left
      · intro W hSw; (try dsimp only at hSw); have e0 := keepc hSw y2; have e2 := keepc hSw d2; have e3 := keepc hSw d3; (try simp only [List.getElem_toArray, List.getElem_cons_succ, List.getElem_cons_zero]); go_simp; try with_reducible rfl
      try simp only [Act.put, List.setIfInBounds_toArray, List.set_cons_zero, List.set_cons_succ, List.getElem_toArray, List.getElem_cons_succ, List.getElem_cons_zero]
      refine wpAnyH_take (i := 1) (v := ?_) rfl (by kernel_rfl) (by kernel_rfl) (by kernel_rfl) (fun _ _ _ h => h) (Or.inl ⟨by rfl, ?_⟩) (by assumption) ?_
      rotate_left
      · intro W hSw; (try dsimp only at hSw); have e0 := keepc hSw y2; have e2 := keepc hSw d2; have e3 := keepc hSw d3; (try simp only [List.getElem_toArray, List.getElem_cons_succ, List.getElem_cons_zero]); go_simp; try with_reducible rfl
      try simp only [Act.put, List.setIfInBounds_toArray, List.set_cons_zero, List.set_cons_succ, List.getElem_toArray, List.getElem_cons_succ, List.getElem_cons_zero]
      refine wpAnyH_take (i := 2) (v := ?_) rfl (by kernel_rfl) (by kernel_rfl) (by kernel_rfl) (fun _ _ _ h => h) (Or.inl ⟨by rfl, ?_⟩) (by assumption) ?_
      rotate_left
      · intro W hSw; (try dsimp only at hSw); have e0 := keepc hSw y2; have e2 := keepc hSw d2; have e3 := keepc hSw d3; (try simp only [List.getElem_toArray, List.getElem_cons_succ, List.getElem_cons_zero]); go_simp; try with_reducible rfl
      try simp only [Act.put, List.setIfInBounds_toArray, List.set_cons_zero, List.set_cons_succ, List.getElem_toArray, List.getElem_cons_succ, List.getElem_cons_zero]
      refine wpAnyH_take (i := 3) (v := ?_) rfl (by kernel_rfl) (by kernel_rfl) (by kernel_rfl) (fun _ _ _ h => h) (Or.inl ⟨by rfl, ?_⟩) (by assumption) ?_
      rotate_left
      · intro W hSw; (try dsimp only at hSw); have e0 := keepc hSw y2; have e2 := keepc hSw d2; have e3 := keepc hSw d3; (try simp only [List.getElem_toArray, List.getElem_cons_succ, List.getElem_cons_zero]); go_simp; try with_reducible rfl
      try simp only [Act.put, List.setIfInBounds_toArray, List.set_cons_zero, List.set_cons_succ, List.getElem_toArray, List.getElem_cons_succ, List.getElem_cons_zero]
      refine wpAnyH_take (i := 4) (v := ?_) rfl (by kernel_rfl) (by kernel_rfl) (by kernel_rfl) (fun _ _ _ h => h) (Or.inl ⟨by rfl, ?_⟩) (by assumption) ?_
      rotate_left
      · intro W hSw; (try dsimp only at hSw); have e0 := keepc hSw y2; have e2 := keepc hSw d2; have e3 := keepc hSw d3; (try simp only [List.getElem_toArray, List.getElem_cons_succ, List.getElem_cons_zero]); go_simp; try with_reducible rfl
      try simp only [Act.put, List.setIfInBounds_toArray, List.set_cons_zero, List.set_cons_succ, List.getElem_toArray, List.getElem_cons_succ, List.getElem_cons_zero]
      refine wpAnyH_take (i := 5) (v := ?_) rfl (by kernel_rfl) (by kernel_rfl) (by kernel_rfl) (fun _ _ _ h => h) (Or.inl ⟨by rfl, ?_⟩) (by assumption) ?_
      rotate_left
      · intro W hSw; (try dsimp only at hSw); have e0 := keepc hSw y2; have e2 := keepc hSw d2; have e3 := keepc hSw d3; (try simp only [List.getElem_toArray, List.getElem_cons_succ, List.getElem_cons_zero]); go_simp; try with_reducible rfl
      try simp only [Act.put, List.setIfInBounds_toArray, List.set_cons_zero, List.set_cons_succ, List.getElem_toArray, List.getElem_cons_succ, List.getElem_cons_zero]
      refine wpAnyH_take (i := 6) (v := ?_) rfl (by kernel_rfl) (by kernel_rfl) (by kernel_rfl) (fun _ _ _ h => h) (Or.inl ⟨by rfl, ?_⟩) (by assumption) ?_
      rotate_left
      · intro W hSw; (try dsimp only at hSw); have e0 := keepc hSw y2; have e2 := keepc hSw d2; have e3 := keepc hSw d3; (try simp only [List.getElem_toArray, List.getElem_cons_succ, List.getElem_cons_zero]); go_simp; try with_reducible rfl
      try simp only [Act.put, List.setIfInBounds_toArray, List.set_cons_zero, List.set_cons_succ, List.getElem_toArray, List.getElem_cons_succ, List.getElem_cons_zero]
      refine wpAnyH_take (i := 7) (v := ?_) rfl (by kernel_rfl) (by kernel_rfl) (by kernel_rfl) (fun _ _ _ h => h) (Or.inl ⟨by rfl, ?_⟩) (by assumption) ?_
      rotate_left
      · intro W hSw; (try dsimp only at hSw); have e0 := keepc hSw y2; have e2 := keepc hSw d2; have e3 := keepc hSw d3; (try simp only [List.getElem_toArray, List.getElem_cons_succ, List.getElem_cons_zero]); go_simp; try with_reducible rfl
      try simp only [Act.put, List.setIfInBounds_toArray, List.set_cons_zero, List.set_cons_succ, List.getElem_toArray, List.getElem_cons_succ, List.getElem_cons_zero]
      refine wpAnyH_take (i := 8) (v := ?_) rfl (by kernel_rfl) (by kernel_rfl) (by kernel_rfl) (fun _ _ _ h => h) (Or.inl ⟨by rfl, ?_⟩) (by assumption) ?_
      rotate_left
      · intro W hSw; (try dsimp only at hSw); have e0 := keepc hSw y2; have e2 := keepc hSw d2; have e3 := keepc hSw d3; (try simp only [List.getElem_toArray, List.getElem_cons_succ, List.getElem_cons_zero]); go_simp; try with_reducible rfl
      try simp only [Act.put, List.setIfInBounds_toArray, List.set_cons_zero, List.set_cons_succ, List.getElem_toArray, List.getElem_cons_succ, List.getElem_cons_zero]
      refine wpAnyH_take (i := 9) (v := ?_) rfl (by kernel_rfl) (by kernel_rfl) (by kernel_rfl) (fun _ _ _ h => h) (Or.inl ⟨by rfl, ?_⟩) (by assumption) ?_
      rotate_left
      · intro W hSw; (try dsimp only at hSw); have e0 := keepc hSw y2; have e2 := keepc hSw d2; have e3 := keepc hSw d3; (try simp only [List.getElem_toArray, List.getElem_cons_succ, List.getElem_cons_zero]); go_simp; try with_reducible rfl
      try simp only [Act.put, List.setIfInBounds_toArray, List.set_cons_zero, List.set_cons_succ, List.getElem_toArray, List.getElem_cons_succ, List.getElem_cons_zero]
      refine wpAnyH_take (i := 10) (v := ?_) rfl (by kernel_rfl) (by kernel_rfl) (by kernel_rfl) (fun _ _ _ h => h) (Or.inl ⟨by rfl, ?_⟩) (by assumption) ?_
      rotate_left
      · intro W hSw; (try dsimp only at hSw); have e0 := keepc hSw y2; have e2 := keepc hSw d2; have e3 := keepc hSw d3; (try simp only [List.getElem_toArray, List.getElem_cons_succ, List.getElem_cons_zero]); go_simp; try with_reducible rfl
      try simp only [Act.put, List.setIfInBounds_toArray, List.set_cons_zero, List.set_cons_succ, List.getElem_toArray, List.getElem_cons_succ, List.getElem_cons_zero]
      refine wpAnyH_take (i := 11) (v := ?_) rfl (by kernel_rfl) (by kernel_rfl) (by kernel_rfl) (fun _ _ _ h => h) (Or.inl ⟨by rfl, ?_⟩) (by assumption) ?_
      rotate_left
      · intro W hSw; (try dsimp only at hSw); have e0 := keepc hSw y2; have e2 := keepc hSw d2; have e3 := keepc hSw d3; (try simp only [List.getElem_toArray, List.getElem_cons_succ, List.getElem_cons_zero]); go_simp; try with_reducible rfl
      try simp only [Act.put, List.setIfInBounds_toArray, List.set_cons_zero, List.set_cons_succ, List.getElem_toArray, List.getElem_cons_succ, List.getElem_cons_zero]
      refine wpAnyH_ready (rs := [12, 16]) (by kernel_rfl) (by simp) ?_
      refine AllReadyH.cons rfl (fun K hK => ?_) (AllReadyH.cons rfl (fun K hK => ?_) AllReadyH.nil)
      · skip
        try simp only [List.getElem_toArray, List.getElem_cons_succ, List.getElem_cons_zero]
        go_simp
        go_at_call 48
        refine (HNR.out _ k hkn).mono ?_
        rintro e w3 ⟨rfl, hb3⟩
        (try go_wp2_with fail)
        refine hK.out _ _ ?_ (fun hHeld => ?_)
        · exact bstep (by assumption) hb3
        clear hK K
        try simp only [Act.put, List.setIfInBounds_toArray, List.set_cons_zero, List.set_cons_succ, List.getElem_toArray, List.getElem_cons_succ, List.getElem_cons_zero]
        refine wpAnyH_take (i := 13) (v := ?_) rfl (by kernel_rfl) (by kernel_rfl) (by kernel_rfl) (fun _ _ _ h => h) (Or.inl ⟨by rfl, ?_⟩) (by assumption) ?_
        rotate_left
        · intro W hSw; (try dsimp only at hSw); have e0 := keepc hSw y2; have e2 := keepc hSw d2; have e3 := keepc hSw d3; (try simp only [List.getElem_toArray, List.getElem_cons_succ, List.getElem_cons_zero]); go_simp; try with_reducible rfl
        try simp only [Act.put, List.setIfInBounds_toArray, List.set_cons_zero, List.set_cons_succ, List.getElem_toArray, List.getElem_cons_succ, List.getElem_cons_zero]
        refine wpAnyH_take (i := 14) (v := ?_) rfl (by kernel_rfl) (by kernel_rfl) (by kernel_rfl) (fun _ _ _ h => h) (Or.inl ⟨by rfl, ?_⟩) (by assumption) ?_
        rotate_left
        · intro W hSw; (try dsimp only at hSw); have e0 := keepc hSw y2; have e2 := keepc hSw d2; have e3 := keepc hSw d3; (try simp only [List.getElem_toArray, List.getElem_cons_succ, List.getElem_cons_zero]); go_simp; try with_reducible rfl
        try simp only [Act.put, List.setIfInBounds_toArray, List.set_cons_zero, List.set_cons_succ, List.getElem_toArray, List.getElem_cons_succ, List.getElem_cons_zero]
        refine wpAnyH_take (i := 15) (v := ?_) rfl (by kernel_rfl) (by kernel_rfl) (by kernel_rfl) (fun _ _ _ h => h) (Or.inl ⟨by rfl, ?_⟩) (by assumption) ?_
        rotate_left
        · intro W hSw; (try dsimp only at hSw); have e0 := keepc hSw y2; have e2 := keepc hSw d2; have e3 := keepc hSw d3; (try simp only [List.getElem_toArray, List.getElem_cons_succ, List.getElem_cons_zero]); go_simp; try with_reducible rfl
        try simp only [Act.put, List.setIfInBounds_toArray, List.set_cons_zero, List.set_cons_succ, List.getElem_toArray, List.getElem_cons_succ, List.getElem_cons_zero]
        refine wpAnyH_ready (rs := [16]) (by kernel_rfl) (by simp) ?_
        refine AllReadyH.cons rfl (fun K hK => ?_) AllReadyH.nil
        try simp only [List.getElem_toArray, List.getElem_cons_succ, List.getElem_cons_zero]
        go_simp
        refine hK.out _ _ ?_ (fun hHeld => ?_)
        · exact Below.alloc (by assumption) (Below.size (by assumption)) _
        clear hK K
        try simp only [Act.put, List.setIfInBounds_toArray, List.set_cons_zero, List.set_cons_succ, List.getElem_toArray, List.getElem_cons_succ, List.getElem_cons_zero]
        refine wpAnyH_ready (rs := [17]) (by kernel_rfl) (by simp) ?_
        refine AllReadyH.cons rfl (fun K hK => ?_) AllReadyH.nil
        try simp only [List.getElem_toArray, List.getElem_cons_succ, List.getElem_cons_zero]
        go_simp
        refine hK.out _ _ ?_ (fun hHeld => ?_)
        · exact Below.alloc (by assumption) (Below.size (by assumption)) _
        clear hK K
        try simp only [Act.put, List.setIfInBounds_toArray, List.set_cons_zero, List.set_cons_succ, List.getElem_toArray, List.getElem_cons_succ, List.getElem_cons_zero]
        refine wpAnyH_take (i := 18) (v := ?_) rfl (by kernel_rfl) (by kernel_rfl) (by kernel_rfl) (fun _ _ _ h => h) (Or.inl ⟨by rfl, ?_⟩) (by assumption) ?_
        rotate_left
        · intro W hSw; (try dsimp only at hSw); have e0 := keepc hSw y2; have e2 := keepc hSw d2; have e3 := keepc hSw d3; (try simp only [List.getElem_toArray, List.getElem_cons_succ, List.getElem_cons_zero]); go_simp; try with_reducible rfl
        try simp only [Act.put, List.setIfInBounds_toArray, List.set_cons_zero, List.set_cons_succ, List.getElem_toArray, List.getElem_cons_succ, List.getElem_cons_zero]
        refine wpAnyH_done (by kernel_rfl) ?_ _
        have hB3 : Below wr.heap.size wr w3 := bstep (bdrew (Below.refl wr.heap.size wr)) hb3
        have hrv := (HRN.out.below hB3).below (W' := w3.alloc (.cells #[.int .i64 (C.cc k), .int .i64 (C.cw k), .slice none 0 0, .int .i64 0] 99)) ((Below.refl _ _).alloc (Nat.le_refl _) _)
        have hqv := bk_new w3 (.cells #[.int .i64 (C.cc k), .int .i64 (C.cw k), .slice none 0 0, .int .i64 0] 99)
        generalize w3.alloc (.cells #[.int .i64 (C.cc k), .int .i64 (C.cw k), .slice none 0 0, .int .i64 0] 99) = V at hrv hqv ⊢
        clear y0 y1 y2 x0 x1 x2 x3 d2 d3
        have HRV := Lib.hid hrv
        have HQV := Lib.hid hqv
        obtain ⟨y0, y1, y2, x0, x1, x2, x3⟩ := hrv.cells
        have g0 : V.cell? ⟨w3.heap.size, 0, none⟩ = some (.int .i64 (C.cc k)) := (bk_cell hqv 0).trans rfl
        have g1 : V.cell? ⟨w3.heap.size, 1, none⟩ = some (.int .i64 (C.cw k)) := (bk_cell hqv 1).trans rfl
        have g2 : V.cell? ⟨w3.heap.size, 2, none⟩ = some (.slice none 0 0) := (bk_cell hqv 2).trans rfl
        have g3 : V.cell? ⟨w3.heap.size, 3, none⟩ = some (.int .i64 0) := (bk_cell hqv 3).trans rfl
        have g4 : w3.heap.size < V.heap.size := bk_lt hqv
        obtain ⟨a1, c1, rfl, _⟩ := own_read hrv.o
        have hk8 : k ≤ 16 := by omega
        clear hrv hqv hHeld
        go_wp2_with (at_builtin; refine appF rfl _ _ _ rfl keR (.slice a1 k c1) k (flat 4 (rf0 C) k) (by rfl) (own_kept HRV.out.o (Kept.of_below (g := 0) ((Below.refl _ _).alloc (Nat.le_refl _) _)) (by omega)) (some ⟨V.heap.size, 0, none⟩) 1 1 (fun _ r => rf0 C k r) (by rfl) (fun e => by cases e) (.inr ⟨V.heap.size, 0, rfl, fun i hi r hr => by
            match r, hr with
            | 0, _ => obtain rfl : i = 0 := (by omega); exact (bk_cell (bk_new V _) 0).trans rfl
            | 1, _ => obtain rfl : i = 0 := (by omega); exact (bk_cell (bk_new V _) 1).trans rfl
            | 2, _ => obtain rfl : i = 0 := (by omega); exact (bk_cell (bk_new V _) 2).trans rfl
            | 3, _ => obtain rfl : i = 0 := (by omega); exact (bk_cell (bk_new V _) 3).trans rfl⟩) (fun i r _ => rf_one C _ _ _ _ k r) (by omega) (by simp; omega) ?c1)
        case c1 =>
          intro v7 w7 o7 b7 _
          obtain ⟨a7, c7, rfl, _⟩ := own_read o7
          have hb7 : Below (w.heap.size + 1 + 1 + 1) V w7 := (((Below.refl V.heap.size V).alloc (Nat.le_refl _) _).mono (by omega)).trans b7
          have hx7 := (hb7.block _ (by omega)).trans HRV.out.x
          have F1 : w7.cell? ⟨w.heap.size + 1 + 1, 1, none⟩ = some (.slice a1 k c1) := (bk_cell hx7 1).trans rfl
          have F2 := bk_frozen hx7 1
          have hr7 := RN.app (v' := .slice a7 (k + 1) c7) HRV.out hb7 o7
          clear o7 b7 hb7 hx7
          go_wp2_with fail
          exact ⟨⟨k + 1, _, by omega, by go_num, hr7⟩, by simp [intOf]; omega⟩
      · skip
        try simp only [List.getElem_toArray, List.getElem_cons_succ, List.getElem_cons_zero]
        go_simp
        refine hK.out _ _ ?_ (fun hHeld => ?_)
        · exact Below.alloc (by assumption) (Below.size (by assumption)) _
        clear hK K
        try simp only [Act.put, List.setIfInBounds_toArray, List.set_cons_zero, List.set_cons_succ, List.getElem_toArray, List.getElem_cons_succ, List.getElem_cons_zero]
        refine wpAnyH_ready (rs := [12]) (by kernel_rfl) (by simp) ?_
        refine AllReadyH.cons rfl (fun K hK => ?_) AllReadyH.nil
        try simp only [List.getElem_toArray, List.getElem_cons_succ, List.getElem_cons_zero]
        go_simp
        go_at_call 48
        refine (HNR.out _ k hkn).mono ?_
        rintro e w3 ⟨rfl, hb3⟩
        (try go_wp2_with fail)
        refine hK.out _ _ ?_ (fun hHeld => ?_)
        · exact bstep (by assumption) hb3
        clear hK K
        try simp only [Act.put, List.setIfInBounds_toArray, List.set_cons_zero, List.set_cons_succ, List.getElem_toArray, List.getElem_cons_succ, List.getElem_cons_zero]
        refine wpAnyH_take (i := 13) (v := ?_) rfl (by kernel_rfl) (by kernel_rfl) (by kernel_rfl) (fun _ _ _ h => h) (Or.inl ⟨by rfl, ?_⟩) (by assumption) ?_
        rotate_left
        · intro W hSw; (try dsimp only at hSw); have e0 := keepc hSw y2; have e2 := keepc hSw d2; have e3 := keepc hSw d3; (try simp only [List.getElem_toArray, List.getElem_cons_succ, List.getElem_cons_zero]); go_simp; try with_reducible rfl
        try simp only [Act.put, List.setIfInBounds_toArray, List.set_cons_zero, List.set_cons_succ, List.getElem_toArray, List.getElem_cons_succ, List.getElem_cons_zero]
        refine wpAnyH_take (i := 14) (v := ?_) rfl (by kernel_rfl) (by kernel_rfl) (by kernel_rfl) (fun _ _ _ h => h) (Or.inl ⟨by rfl, ?_⟩) (by assumption) ?_
        rotate_left
        · intro W hSw; (try dsimp only at hSw); have e0 := keepc hSw y2; have e2 := keepc hSw d2; have e3 := keepc hSw d3; (try simp only [List.getElem_toArray, List.getElem_cons_succ, List.getElem_cons_zero]); go_simp; try with_reducible rfl
        try simp only [Act.put, List.setIfInBounds_toArray, List.set_cons_zero, List.set_cons_succ, List.getElem_toArray, List.getElem_cons_succ, List.getElem_cons_zero]
        refine wpAnyH_take (i := 15) (v := ?_) rfl (by kernel_rfl) (by kernel_rfl) (by kernel_rfl) (fun _ _ _ h => h) (Or.inl ⟨by rfl, ?_⟩) (by assumption) ?_
        rotate_left
        · intro W hSw; (try dsimp only at hSw); have e0 := keepc hSw y2; have e2 := keepc hSw d2; have e3 := keepc hSw d3; (try simp only [List.getElem_toArray, List.getElem_cons_succ, List.getElem_cons_zero]); go_simp; try with_reducible rfl
        try simp only [Act.put, List.setIfInBounds_toArray, List.set_cons_zero, List.set_cons_succ, List.getElem_toArray, List.getElem_cons_succ, List.getElem_cons_zero]
        have hq3 := bk_below (show (wr.alloc (.cells #[.int .i64 0, .int .i64 0, .slice none 0 0, .int .i64 0] 99)).drew.heap[wr.heap.size]? = some (.cells #[.int .i64 0, .int .i64 0, .slice none 0 0, .int .i64 0] 99 (0, 0)) from bk_new wr _) hb3
        have hB3 : Below wr.heap.size wr w3 := bstep (bdrew ((Below.refl wr.heap.size wr).alloc (Nat.le_refl _) _)) hb3
        have z0 : w3.cell? ⟨wr.heap.size, 0, none⟩ = some (.int .i64 0) := (bk_cell hq3 0).trans rfl
        have f0 := bk_frozen hq3 0
        have z1 : w3.cell? ⟨wr.heap.size, 1, none⟩ = some (.int .i64 0) := (bk_cell hq3 1).trans rfl
        have f1 := bk_frozen hq3 1
        have z2 : w3.cell? ⟨wr.heap.size, 2, none⟩ = some (.slice none 0 0) := (bk_cell hq3 2).trans rfl
        have f2 := bk_frozen hq3 2
        have z3 : w3.cell? ⟨wr.heap.size, 3, none⟩ = some (.int .i64 0) := (bk_cell hq3 3).trans rfl
        have f3 := bk_frozen hq3 3
        refine wpAnyH_ready (rs := [17]) (by kernel_rfl) (by simp) ?_
        refine AllReadyH.cons rfl (fun K hK => ?_) AllReadyH.nil
        try simp only [List.getElem_toArray, List.getElem_cons_succ, List.getElem_cons_zero]
        go_simp
        refine hK.out _ _ ?_ (fun hHeld => ?_)
        · exact below4 hB3 _ _ _ _
        clear hK K
        try simp only [Act.put, List.setIfInBounds_toArray, List.set_cons_zero, List.set_cons_succ, List.getElem_toArray, List.getElem_cons_succ, List.getElem_cons_zero]
        refine wpAnyH_take (i := 18) (v := ?_) rfl (by kernel_rfl) (by kernel_rfl) (by kernel_rfl) (fun _ _ _ h => h) (Or.inl ⟨by rfl, ?_⟩) (by assumption) ?_
        rotate_left
        · intro W hSw; (try dsimp only at hSw); have e0 := keepc hSw y2; have e2 := keepc hSw d2; have e3 := keepc hSw d3; (try simp only [List.getElem_toArray, List.getElem_cons_succ, List.getElem_cons_zero]); go_simp; try with_reducible rfl
        try simp only [Act.put, List.setIfInBounds_toArray, List.set_cons_zero, List.set_cons_succ, List.getElem_toArray, List.getElem_cons_succ, List.getElem_cons_zero]
        refine wpAnyH_done (by kernel_rfl) ?_ _
        have hrv := HRN.out.below (below4 hB3 (.int .i64 (C.cc k)) (.int .i64 (C.cw k)) (.slice none 0 0) (.int .i64 0))
        have hqv := bk_set (bk_set (bk_set (bk_set hq3 0 (.int .i64 (C.cc k))) 1 (.int .i64 (C.cw k))) 2 (.slice none 0 0)) 3 (.int .i64 0)
        clear hq3 z0 z1 z2 z3 f0 f1 f2 f3 hB3
        generalize ((((w3.setCell ⟨wr.heap.size, 0, none⟩ (.int .i64 (C.cc k))).setCell ⟨wr.heap.size, 1, none⟩ (.int .i64 (C.cw k))).setCell ⟨wr.heap.size, 2, none⟩ (.slice none 0 0)).setCell ⟨wr.heap.size, 3, none⟩ (.int .i64 0)) = V at hrv hqv ⊢
        clear y0 y1 y2 x0 x1 x2 x3 d2 d3
        have HRV := Lib.hid hrv
        have HQV := Lib.hid hqv
        obtain ⟨y0, y1, y2, x0, x1, x2, x3⟩ := hrv.cells
        have g0 : V.cell? ⟨wr.heap.size, 0, none⟩ = some (.int .i64 (C.cc k)) := (bk_cell hqv 0).trans rfl
        have g1 : V.cell? ⟨wr.heap.size, 1, none⟩ = some (.int .i64 (C.cw k)) := (bk_cell hqv 1).trans rfl
        have g2 : V.cell? ⟨wr.heap.size, 2, none⟩ = some (.slice none 0 0) := (bk_cell hqv 2).trans rfl
        have g3 : V.cell? ⟨wr.heap.size, 3, none⟩ = some (.int .i64 0) := (bk_cell hqv 3).trans rfl
        have g4 : wr.heap.size < V.heap.size := bk_lt hqv
        obtain ⟨a1, c1, rfl, _⟩ := own_read hrv.o
        have hk8 : k ≤ 16 := by omega
        clear hrv hqv hHeld
        go_wp2_with (at_builtin; refine appF rfl _ _ _ rfl keR (.slice a1 k c1) k (flat 4 (rf0 C) k) (by rfl) (own_kept HRV.out.o (Kept.of_below (g := 0) ((Below.refl _ _).alloc (Nat.le_refl _) _)) (by omega)) (some ⟨V.heap.size, 0, none⟩) 1 1 (fun _ r => rf0 C k r) (by rfl) (fun e => by cases e) (.inr ⟨V.heap.size, 0, rfl, fun i hi r hr => by
            match r, hr with
            | 0, _ => obtain rfl : i = 0 := (by omega); exact (bk_cell (bk_new V _) 0).trans rfl
            | 1, _ => obtain rfl : i = 0 := (by omega); exact (bk_cell (bk_new V _) 1).trans rfl
            | 2, _ => obtain rfl : i = 0 := (by omega); exact (bk_cell (bk_new V _) 2).trans rfl
            | 3, _ => obtain rfl : i = 0 := (by omega); exact (bk_cell (bk_new V _) 3).trans rfl⟩) (fun i r _ => rf_one C _ _ _ _ k r) (by omega) (by simp; omega) ?c1)
        case c1 =>
          intro v7 w7 o7 b7 _
          obtain ⟨a7, c7, rfl, _⟩ := own_read o7
          have hb7 : Below (w.heap.size + 1 + 1 + 1) V w7 := (((Below.refl V.heap.size V).alloc (Nat.le_refl _) _).mono (by omega)).trans b7
          have hx7 := (hb7.block _ (by omega)).trans HRV.out.x
          have F1 : w7.cell? ⟨w.heap.size + 1 + 1, 1, none⟩ = some (.slice a1 k c1) := (bk_cell hx7 1).trans rfl
          have F2 := bk_frozen hx7 1
          have hr7 := RN.app (v' := .slice a7 (k + 1) c7) HRV.out hb7 o7
          clear o7 b7 hb7 hx7
          go_wp2_with fail
          exact ⟨⟨k + 1, _, by omega, by go_num, hr7⟩, by simp [intOf]; omega⟩
    · obtain rfl : k = C.nC := by omega
      have hnn : ¬ (C.nC : Int) < C.nC := by omega
      obtain ⟨a1, c1, rfl, hsl, hab, hn0, hcl⟩ := ownF_sl HRN.out.o
      have r0 : wr.cell? ⟨w.heap.size + 1, 0, none⟩ = some (.slice none 0 0) := (bk_cell HRN.out.r 0).trans rfl
      have r1 : wr.cell? ⟨w.heap.size + 1, 1, none⟩ = some (.slice none 0 0) := (bk_cell HRN.out.r 1).trans rfl
      have f0 := bk_frozen HRN.out.r 0
      have f1 := bk_frozen HRN.out.r 1
      have HSL := Lib.hid hsl
      have HAB := Lib.hid hab
      have HN0 := Lib.hid hn0
      have HCL := Lib.hid hcl
      clear hsl hab hn0 hcl hkn
      go_wp2_with fail
      (try simp only [Exit.inBlock, Exit.then])
      refine bodyPost_ret (res_c (ty := 61) rfl _ _ (w.heap.size + 1) _ _ _ _ (by rfl) (bk_set (bk_set HRN.out.r 0 (.slice pC C.nC cC)) 1 (.slice a1 C.nC c1)) Try.underlying61 rfl (by kernel_rfl)) rfl ?_
      have hk : Kept (w.heap.size + 1) wr ((wr.setCell ⟨w.heap.size + 1, 0, none⟩ (.slice pC C.nC cC)).setCell ⟨w.heap.size + 1, 1, none⟩ (.slice a1 C.nC c1)) := ((Kept.refl _ _).setCell 0 _).setCell 1 _
      refine ⟨a1, c1, rfl, ?_, fun b o e => ⟨by have := (HAB.out b o e).1; omega, (HAB.out b o e).2.2⟩, HN0.out, HCL.out, hk.below HRN.out.b (by omega) HRN.out.b.size⟩
      rcases HSL.out with h0 | ⟨b, o, e, hc⟩
      · exact .inl h0
      · exact .inr ⟨b, o, e, fun i hi r hr => hk.cell (hc i hi r hr) (by have := (HAB.out b o e).1; omega)⟩
end Go.Proofs.Ytofkgceenppdbaa
