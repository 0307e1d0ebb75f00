/- A schedule's Tick, where the next window's turn begins. -/
import Derived.Test.YtlmgkdilidgkgaaSched2
import Derived.Sort.QuietIn
namespace Go.Proofs.Ytlmgkdilidgkgaa
open Go.RowKit
set_option linter.unusedVariables false
set_option linter.unusedSimpArgs false
attribute [local go_sem] Oper.semAt_some
theorem IsS.upto {W W' : World} {N g gl n cap : Nat} {X Y : Nat → Int} {a b c : Int} (h : IsS W g gl n cap X Y a b c) (hb : Below N W W') (hg : g < N) (hgl : gl < N) : IsS W' g gl n cap X Y a b c :=
  ⟨(hb.block _ hg).trans h.blk, fun i hi => ⟨(hb.cell (p := ⟨gl, i * 2, none⟩) hgl).trans (h.row i hi).1, (hb.cell (p := ⟨gl, i * 2 + 1, none⟩) hgl).trans (h.row i hi).2⟩, h.ne⟩
set_option maxRecDepth 20000 in
set_option maxHeartbeats 8000000 in
theorem tick_next (g gl n cap : Nat) (X Y : Nat → Int) (a a' : Nat) (b c : Int) (w : World) (h : IsS w g gl n cap X Y a b c) (ha : a < n) (hn : n ≤ 1000) (hb0 : 0 ≤ b) (hb1 : b + 1 = Y a) (hy : Y a ≤ 255) (hc0 : 0 ≤ c) (hc1 : c < 9223372036854775807)
    (ha' : a' = (a + 1) % n) :
    Calls Try.prog 17 #[.pointer (some ⟨g, 0, none⟩)] w fun e w' => e = .returned (.tuple #[.int .i64 (X a), .int .i64 (X a')]) ∧ IsS w' g gl n cap X Y a' 0 (c + 1) ∧ Kept g w w' := by
  have hal : a' < n := by rw [ha']; exact Nat.mod_lt _ (by omega)
  have hcast : ((a : Int) + 1) % n = (a' : Int) := by rw [ha']; push_cast; rfl
  have HCAST := Lib.hid hcast
  have ha1 : (a : Int) < n := by omega
  have ha0 : (0 : Int) ≤ a := by omega
  have s1 : IntKind.u64.wrap (c + 1) = c + 1 := by rw [IntKind.wrap_u64]; omega
  have s2 : IntKind.i64.wrap (b + 1) = b + 1 := IntWalk.i64_in _ (by omega)
  have hz : (c + 1 == 0) = false := beq_eq_false_iff_ne.2 (by omega)
  have hz2 : (b + 1 == Y a) = true := beq_iff_eq.2 hb1
  have hgl := h.lt
  have hS0 : IsS (w.alloc (.cells #[.pointer (some ⟨g, 0, none⟩)] 29)) g gl n cap X Y a b c := h.below ((Below.refl _ _).alloc (Nat.le_refl _) _)
  have H0 := Lib.hid hS0
  have HB1 := Lib.hid hb1
  clear h hS0 hcast ha' hb1
  refine (callsIn_wide (n := 3)).1 ?_
  refine callsIn_of_wp_marks Try.func17 rfl trivial ?_ rfl
  simp only [Try.ntmps17, List.size_toArray, List.length_cons, List.length_nil, Nat.reduceAdd, Nat.reduceSub, Array.replicate_succ, Array.replicate_zero, List.push_toArray, List.append_toArray, List.nil_append, List.cons_append]
  gi_wp2_with fail
  refine ⟨trivial, ?_⟩
  refine (callsIn_wide.2 (snone_not g gl n cap X Y a b c _ H0.out (by omega))).mono ?_; rintro e w1 ⟨rfl, rfl⟩
  gi_wp2_with fail
  refine ⟨trivial, ?_⟩
  refine (callsIn_wide.2 (spart_any g gl n cap X Y a b c _ H0.out ha)).mono ?_; rintro e w2 ⟨rfl, hb2⟩
  have H2 := Lib.hid (H0.out.below hb2)
  have HK2 := Lib.hid (show Kept g w w2 from (Kept.of_below ((Below.refl _ _).alloc (Nat.le_refl _) _)).trans (.of_below hb2))
  have HD2 := Lib.hid (show w2.heap[w.heap.size]? = some (.cells #[.pointer (some ⟨g, 0, none⟩)] 29 (0, 0)) from bk_below (bk_new w _) hb2)
  have d0 : w2.cell? ⟨w.heap.size, 0, none⟩ = some (.pointer (some ⟨g, 0, none⟩)) := (bk_cell HD2.out 0).trans rfl
  have hz3 := hb2.size
  rw [World.size_alloc] at hz3
  obtain ⟨c0, c1, c2, c3⟩ := H2.out.cells
  have f2 := bk_frozen H2.out.blk 2
  have f3 := bk_frozen H2.out.blk 3
  have hr := (H2.out.row a ha).2
  have hlt2 := block_lt_of_cell hr
  have hgl2 := H2.out.lt
  have hne := H2.out.ne
  clear hb2
  gi_wp2_with fail
  gi_quiet (fail)
  gi_wp2_with fail
  refine ⟨trivial, ?_⟩
  refine cIn_abs (fun W => IsS W g gl n cap X Y a (b + 1) (c + 1) ∧ W.heap[w.heap.size]? = some (.cells #[.pointer (some ⟨g, 0, none⟩)] 29 (0, 0)) ∧ Kept g w W)
    ?_ ?_
  · exact ⟨((H2.out.set3 (c + 1)).set2 (b + 1)).below (bdrewN (Below.refl _ _) _), bk_far (bk_far HD2.out (p := ⟨g, 3, none⟩) (by dsimp only; omega) _) (p := ⟨g, 2, none⟩) (by dsimp only; omega) _, ((HK2.out.setCell 3 _).setCell 2 _).drewN _⟩
  clear c0 c1 c2 c3 f2 f3 hr hlt2 hgl2 hne d0 hz3
  rintro V ⟨hv1, hv2, hv3⟩
  have HV1 := Lib.hid hv1
  have HV2 := Lib.hid hv2
  have HV3 := Lib.hid hv3
  clear hv1 hv2 hv3
  refine (callsIn_wide.2 (round_any' g _)).mono ?_; rintro e w4 ⟨rfl, rfl⟩
  gi_wp2_with fail
  refine wIn_abs (fun U => IsS U g gl n cap X Y a (b + 1) (c + 1) ∧ U.heap[w.heap.size]? = some (.cells #[.pointer (some ⟨g, 0, none⟩)] 29 (0, 0)) ∧ Kept g w U ∧ U.heap[V.heap.size]? = some (.cells #[.pointer (some ⟨g, 0, none⟩)] 29 (0, 0)))
    ?_ ?_
  · exact ⟨HV1.out.below ((Below.refl _ _).alloc (Nat.le_refl _) _), bk_alloc HV2.out _, HV3.out.then_below ((Below.refl _ _).alloc (Nat.le_refl _) _), bk_new _ _⟩
  rintro U ⟨hu1, hu2, hu3, hu4⟩
  have hit := round_iter V.heap.size g gl n cap X Y a (b + 1) (c + 1) U hu1 hu4 ha hn
  rw [HCAST.out] at hit
  have hg := hu1.lt
  have hgl3 := block_lt_of_cell (hu1.row a ha).1
  have hbx := bk_lt hu2
  have hne := hu1.ne
  have HU1 := Lib.hid hu1
  have HU2 := Lib.hid hu2
  have HU3 := Lib.hid hu3
  clear hu1 hu2 hu3 hu4 HV1 HV2 HV3
  refine wp_range1 rfl rfl (gf := 32) (lb := #[.pointer (some ⟨V.heap.size, 0, none⟩)]) rfl trivial (enters_of Try.func32 (by kernel_rfl) rfl) hit rfl
    (fun W => Below U.heap.size U W)
    (fun cd W => cd = .exit 0 ∧ IsS W g gl n cap X Y a' 0 (c + 1) ∧ W.heap[w.heap.size]? = some (.cells #[.pointer (some ⟨g, 0, none⟩)] 29 (0, 0)) ∧ Kept g w W)
    (fun A B hb h => h.trans hb)
    ?hix (Below.refl _ _) ?round ?stop
  case hix =>
    rintro cd A B hb ⟨h1, h2, h3, h4⟩
    refine ⟨h1, h2.upto hb hg hgl3, (hb.block _ hbx).trans h3, ?_⟩
    exact ⟨hb.os.trans h4.os, hb.tape.trans h4.tape, hb.output.trans h4.output, Nat.le_trans h4.size hb.size, fun k hk hkg => (hb.block k (by have := HU3.out.size; omega)).trans (h4.block k hk hkg)⟩
  case round =>
    intro m W hI hsz
    have HIk := Lib.hid hI
    clear hI hit
    gi_wp2
    refine ⟨(Below.refl _ _), fun W2 hk2 hi2 => ?_⟩
    have hS2 := HU1.out.upto hi2 hg hgl3
    have hbx2 := (hi2.block _ hbx).trans HU2.out
    have d0 : W2.cell? ⟨w.heap.size, 0, none⟩ = some (.pointer (some ⟨g, 0, none⟩)) := (bk_cell hbx2 0).trans rfl
    obtain ⟨c0, c1, c2, c3⟩ := hS2.cells
    have f1 := bk_frozen hS2.blk 1
    have f2 := bk_frozen hS2.blk 2
    have HS2 := Lib.hid hS2
    have HI2 := Lib.hid hi2
    have HBX2 := Lib.hid hbx2
    have hg2 := hS2.lt
    clear hS2 hi2 hk2 hbx2
    gi_wp2_with fail
    have hIS := (HS2.out.set1 (a' : Int)).set2 0
    have hKP := ((HU3.out.trans (.of_below HI2.out)).setCell 1 (.int .i64 (a' : Int))).setCell 2 (.int .i64 0)
    have hBX := bk_far (bk_far HBX2.out (p := ⟨g, 1, none⟩) (by dsimp only; omega) (.int .i64 (a' : Int))) (p := ⟨g, 2, none⟩) (by dsimp only; omega) (.int .i64 0)
    have hL := (Below.heap_setCell (W2.setCell ⟨g, 1, none⟩ (.int .i64 (a' : Int))) ⟨g, 2, none⟩ (.int .i64 0) (U.heap.size + 1) (by dsimp only; omega)).trans (Below.heap_setCell W2 ⟨g, 1, none⟩ (.int .i64 (a' : Int)) (U.heap.size + 1) (by dsimp only; omega))
    have hD := (Below.heap_setCell (W2.setCell ⟨g, 1, none⟩ (.int .i64 (a' : Int))) ⟨g, 2, none⟩ (.int .i64 0) U.heap.size (by dsimp only; omega)).trans (Below.heap_setCell W2 ⟨g, 1, none⟩ (.int .i64 (a' : Int)) U.heap.size (by dsimp only; omega))
    have HIS := Lib.hid hIS
    have HKP := Lib.hid hKP
    have HBX := Lib.hid hBX
    have HL := Lib.hid hL
    have HD := Lib.hid hD
    clear hIS hKP hBX hL hD
    gi_region
    all_goals
      gi_wp2_with fail
      exact ⟨HL.out, HD.out, rfl, ⟨HIS.out.blk, HIS.out.row, HIS.out.ne⟩, HBX.out, HKP.out.drew⟩
  case stop =>
    rintro cd W ⟨rfl, h1, h2, h3⟩ hD
    have H1 := Lib.hid h1
    have H2 := Lib.hid h2
    have H3 := Lib.hid h3
    have HD := Lib.hid hD
    have d0 : W.cell? ⟨w.heap.size, 0, none⟩ = some (.pointer (some ⟨g, 0, none⟩)) := (bk_cell h2 0).trans rfl
    clear h1 h2 h3 hD
    gi_wp2_with fail
    refine ⟨trivial, ?_⟩
    refine (callsIn_wide.2 (spart_any g gl n cap X Y a' 0 (c + 1) _ H1.out hal)).mono ?_; rintro e w5 ⟨rfl, hb5⟩
    have H5 := Lib.hid (H1.out.below hb5)
    have HK5 := Lib.hid (H3.out.then_below hb5)
    have HD5 := Lib.hid (bk_below HD.out hb5)
    clear hb5
    gi_wp2_with fail
    refine ⟨by simp, .inl ⟨_, _, rfl, run_takeDeferred HD5.out, ?_⟩⟩
    have hus := HU3.out.size
    refine ⟨_, (show (results Try.f17 _).run Try.prog _ = .ok (.tuple #[.int .i64 (X a), .int .i64 (X a')]) _ by simp [results, Try.results17, go_sem]), rfl, H5.out.upto (below_put (Below.refl U.heap.size w5) (Nat.le_refl _) _) hg hgl3, ?_⟩
    exact ⟨HK5.out.os, HK5.out.tape, HK5.out.output, by simpa using HK5.out.size, fun k hk hkg => (World.putObj_heap_other (by omega)).trans (HK5.out.block k hk hkg)⟩
end Go.Proofs.Ytlmgkdilidgkgaa
