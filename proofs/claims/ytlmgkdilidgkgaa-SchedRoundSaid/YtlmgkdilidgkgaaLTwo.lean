/- The law SchedTwo. -/
import Derived.Test.YtlmgkdilidgkgaaLPlays2
import Derived.Deep.DeepCutAuto
import Derived.Deep.CutBlock
namespace Go.Proofs.Ytlmgkdilidgkgaa
open Go.RowKit
set_option linter.unusedVariables false
set_option linter.unusedSimpArgs false
theorem AtT.kept {W W' : World} {g gl cap k : Nat} {C : Cfg} {t : Nat} (h : AtT W g gl cap C t) (hk : Kept k W W') (hg : g ≠ k) (hgl : gl ≠ k) : AtT W' g gl cap C t :=
  ⟨hk.blk h.blk hg, fun i hi => ⟨hk.cell (h.row i hi).1 hgl, hk.cell (h.row i hi).2 hgl⟩, h.ne⟩
theorem AtT.lts {W : World} {g gl cap : Nat} {C : Cfg} {t : Nat} (h : AtT W g gl cap C t) (hC : 1 ≤ C.nW) : g < W.heap.size ∧ gl < W.heap.size ∧ gl ≠ g := ⟨bk_lt h.blk, block_lt_of_cell (h.row 0 (by omega)).1, h.ne⟩
theorem InV.kept' {C : Cfg} {ly : Lay} {n g : Nat} {w V V' : World} (hI : IsC w C ly) (h : InV C ly n w V) (hk : Kept g V V') (hng : n ≠ g) (hg : w.heap.size ≤ g) : InV C ly n w V' := h.kept hI hk hng hg
theorem ownF_none' {w : World} {base e k g : Nat} (hg : g = w.heap.size) (hbase : base ≤ w.heap.size) : (w.alloc (.cells #[] e)).ownsRow base e k (.slice (some ⟨g, 0, none⟩) 0 0) 0 [] := by subst hg; exact ownF_none hbase
set_option maxRecDepth 20000 in
set_option maxHeartbeats 8000000 in
theorem two_out (C : Cfg) (ly : Lay) (n : Int) (w : World) (hI : IsC w C ly) (h : Long C ∨ ¬ CkOk C ∨ n < 0 ∨ 200 < n) :
    Calls Try.prog 6 #[.agg (cfgV C ly), .int .i64 n] w fun e w' => e = .returned (.bool true) ∧ Below w.heap.size w w' := by
  have HI := Lib.hid (show InV C ly w.heap.size w (w.alloc (.cells (cfgV C ly) 26)) from ⟨bk_new _ _, hI.below ((Below.refl _ _).alloc (Nat.le_refl _) _), (Below.refl _ _).alloc (Nat.le_refl _) _⟩)
  by_cases hL : Long C
  · have HL := Lib.hid fun (W : World) => long_yes C ly W hL
    clear hL hI h
    obtain ⟨pP, cP, pW, cW, pC, cC⟩ := ly
    unfold cfgV at *
    simp only at *
    go_enter Try.func6, Try.ntmps6
    go_wp2_with fail
    refine (HL.out _).mono ?_; rintro e w1 ⟨rfl, hb1⟩
    have HB1 := Lib.hid (bstep (a := w) (by go_grown) hb1)
    clear hb1
    go_wp2_with fail
    refine (awake_any _).mono ?_; rintro e w2 ⟨rfl, hb2⟩
    go_wp2
    go_ret
    exact ⟨rfl, bstep HB1.out hb2⟩
  have hN := not_long hL
  have HL := Lib.hid fun (W : World) => long_no C ly W hL
  have HK := Lib.hid fun (W : World) (h : InV C ly w.heap.size w W) => check_any C ly W h.2.1 hN
  by_cases hok : CkOk C
  case neg =>
    have ka := ckE_ne hok
    have ka2 := ckE_bne hok
    clear hok hL hI hN h
    generalize ckE C = er at *
    obtain ⟨pP, cP, pW, cW, pC, cC⟩ := ly
    unfold cfgV at *
    simp only at *
    go_enter Try.func6, Try.ntmps6
    go_wp2_with fail
    refine (HL.out _).mono ?_; rintro e w1 ⟨rfl, hb1⟩
    have HI1 := Lib.hid (HI.out.below hb1)
    obtain ⟨c0, c1, c2⟩ := HI1.out.cells
    clear hb1
    go_wp2_with fail
    clear c0 c1 c2
    refine (HK.out _ (by exact HI1.out)).mono ?_; rintro e w2 ⟨rfl, hb2⟩
    have HI2 := Lib.hid (HI1.out.below hb2)
    clear hb2
    go_wp2_with fail
    refine (awake_any _).mono ?_; rintro e w2 ⟨rfl, hb2⟩
    go_wp2
    go_ret
    exact ⟨rfl, bstep HI2.out.2.2 hb2⟩
  case pos =>
    have h' : n < 0 ∨ (¬ n < 0 ∧ 200 < n) := by
      rcases h with h | h | h | h
      · exact absurd h hL
      · exact absurd hok h
      · exact .inl h
      · by_cases h0 : n < 0
        · exact .inl h0
        · exact .inr ⟨h0, h⟩
    rw [ckE_ok hok] at HK
    clear hok hL hI hN h
    obtain ⟨pP, cP, pW, cW, pC, cC⟩ := ly
    unfold cfgV at *
    simp only at *
    rcases h' with k1 | ⟨k1, k2⟩
    all_goals
      go_enter Try.func6, Try.ntmps6
      go_wp2_with fail
      refine (HL.out _).mono ?_; rintro e w1 ⟨rfl, hb1⟩
      have HI1 := Lib.hid (HI.out.below hb1)
      obtain ⟨c0, c1, c2⟩ := HI1.out.cells
      clear hb1
      go_wp2_with fail
      clear c0 c1 c2
      refine (HK.out _ (by exact HI1.out)).mono ?_; rintro e w2 ⟨rfl, hb2⟩
      have HI2 := Lib.hid (HI1.out.below hb2)
      clear hb2
      go_wp2_with fail
      refine (awake_any _).mono ?_; rintro e w2 ⟨rfl, hb2⟩
      go_wp2
      go_ret
      exact ⟨rfl, bstep HI2.out.2.2 hb2⟩
theorem ownF_blk {w : World} {B : Nat} {e k g c : Nat} {n : Nat} {xs : List Value} (h : w.ownsRow B e k (.slice (some ⟨g, 0, none⟩) n c) n xs) : ∃ cur, w.heap[g]? = some (.cells cur e (0, 0)) ∧ n * k ≤ cur.size := by
  obtain ⟨_, h⟩ := h
  rcases h with ⟨h, _⟩ | ⟨g', cap, cur, e1, hb, hg, hn, hm, hs, ht⟩
  · cases h
  · simp only [Value.slice.injEq, Option.some.injEq, Addr.mk.injEq, and_true, true_and] at e1
    obtain ⟨rfl, rfl⟩ := e1
    exact ⟨cur, hg, by rw [hs]; exact Nat.mul_le_mul_right k hn⟩
/-- a configuration's copy whose windows are another row -/
structure DS (C : Cfg) (ly : Lay) (nd gd cc : Nat) (V : World) : Prop where
  blk : V.heap[nd]? = some (.cells #[.slice ly.pP C.nP ly.cP, .slice (some ⟨gd, 0, none⟩) C.nW cc, .slice ly.pC C.nC ly.cC] 26 (0, 0))
  row : ∃ cur, V.heap[gd]? = some (.cells cur 50 (0, 0)) ∧ C.nW * 2 ≤ cur.size
theorem DS.below {C : Cfg} {ly : Lay} {nd gd cc : Nat} {V V' : World} (h : DS C ly nd gd cc V) (hb : Below V.heap.size V V') : DS C ly nd gd cc V' := by
  obtain ⟨cur, h1, h2⟩ := h.row
  exact ⟨bk_below h.blk hb, cur, bk_below h1 hb, h2⟩
set_option maxRecDepth 20000 in
set_option maxHeartbeats 16000000 in
theorem two_in (C : Cfg) (ly : Lay) (n : Nat) (w : World) (hI : IsC w C ly) (hL : ¬ Long C) (hok : CkOk C) (hn : n ≤ 200) :
    Calls Try.prog 6 #[.agg (cfgV C ly), .int .i64 n] w fun e w' => e = .returned (.bool true) ∧ Below w.heap.size w w' := by
  have HI := Lib.hid (show InV C ly w.heap.size w (w.alloc (.cells (cfgV C ly) 26)) from ⟨bk_new _ _, hI.below ((Below.refl _ _).alloc (Nat.le_refl _) _), (Below.refl _ _).alloc (Nat.le_refl _) _⟩)
  have HI0 := Lib.hid hI
  have hN := not_long hL
  have HL := Lib.hid fun (W : World) => long_no C ly W hL
  have hck := fun (W : World) (h : InV C ly w.heap.size w W) => check_any C ly W h.2.1 hN
  rw [ckE_ok hok] at hck
  have HK := Lib.hid hck
  have HSN := Lib.hid fun (l : Lay) (W : World) (h : IsC W C l) => snew_ok C l W h hN hok
  have HPA := Lib.hid fun (g gl cap t : Nat) (W : World) (h : AtT W g gl cap C t) => part_at g gl cap C t W hok.1 h
  have HWA := Lib.hid fun (g gl cap t : Nat) (W : World) (h : AtT W g gl cap C t) => window_at g gl cap C t W hok.1 h
  have HTA := Lib.hid fun (g gl cap t : Nat) (W : World) (h : AtT W g gl cap C t) => ticks_at g gl cap C t W hok.1 h
  have HLA := Lib.hid fun (g gl cap t : Nat) (W : World) (h : AtT W g gl cap C t) => left_at g gl cap C t W hok.1 h
  have HTK := Lib.hid fun (g gl cap t : Nat) (W : World) (h : AtT W g gl cap C t) (ht : t ≤ 100000) => tick_at g gl cap C t W hok.1 h (by omega)
  have HZ := Lib.hid (st_zero hok.1)
  have hNN := hok.1.N
  have k1 : ¬ (n : Int) < 0 := by omega
  have k2 : ¬ (200 : Int) < (n : Int) := by omega
  have q1 : IntKind.u64.wrap (n : Int) = n := by rw [IntKind.wrap_u64]; omega
  clear hok hL hI hN hck
  obtain ⟨pP, cP, pW, cW, pC, cC⟩ := ly
  unfold cfgV at *
  simp only at *
  go_enter Try.func6, Try.ntmps6
  go_wp2_with fail
  refine (HL.out _).mono ?_; rintro e w1 ⟨rfl, hb1⟩
  have HI1 := Lib.hid (HI.out.below hb1)
  obtain ⟨c0, c1, c2⟩ := HI1.out.cells
  clear hb1
  go_wp2_with fail
  clear c0 c1 c2
  refine (HK.out _ (by exact HI1.out)).mono ?_; rintro e w2 ⟨rfl, hb2⟩
  have HI2 := Lib.hid (HI1.out.below hb2)
  obtain ⟨c0, c1, c2⟩ := HI2.out.cells
  have hwl := bk_lt HI2.out.1
  clear hb2
  go_upto_region 4 with fail
  refine wp_abs (fun V => InV C ⟨pP, cP, pW, cW, pC, cC⟩ w.heap.size w V ∧ V.heap[w2.heap.size]? = some (.cells #[.slice pP C.nP cP, .slice pW C.nW cW, .slice pC C.nC cC] 26 (0, 0))) ?_ ?_
  · exact ⟨HI2.out.below ((Below.refl _ _).alloc (Nat.le_refl _) _), bk_new _ _⟩
  rintro V ⟨hv1, hv2⟩
  clear c0 c1 c2
  obtain ⟨c0, c1, c2⟩ := hv1.cells
  have HV1 := Lib.hid hv1
  have HV2 := Lib.hid hv2
  have hvl := bk_lt hv2
  have hwv : w.heap.size < V.heap.size := by omega
  rcases hv1.2.1.W with h0 | ⟨b, o, e5, hc⟩
  · omega
  simp only at e5
  subst e5
  have HSF := Lib.hid (Sl2.flat (w := V) (p := some ⟨b, o, none⟩) (n := C.nW) (X := C.wp) (Y := C.wt) (.inr ⟨b, o, rfl, hc⟩))
  clear hv1 hv2 hc
  go_wp2_with (at_builtin; refine appF rfl _ _ _ rfl keW (.slice (some ⟨V.heap.size, 0, none⟩) 0 0) 0 [] (by rfl) (ownF_none (Nat.le_refl _)) (some ⟨b, o, none⟩) C.nW cW (two2 C.wp C.wt) (by rfl) (fun e => by cases e) (HSF.out.below ((Below.refl _ _).alloc (Nat.le_refl _) _)) (fun i r _ => two2_one C.wp C.wt i r) (by omega) (by simp) ?c1)
  case c1 =>
    intro v1 w3 o1 b1 g1
    (try rw [List.nil_append, Nat.zero_add] at o1)
    have o2 := o1
    obtain ⟨a, cc, rfl, hsl, hab, hanil, _⟩ := ownF_sl o1
    have hb3 : Below V.heap.size V w3 := ((Below.refl V.heap.size V).alloc (Nat.le_refl _) _).trans b1
    rcases hsl with h0 | ⟨gd, oo, rfl, hcd⟩
    · omega
    obtain ⟨hgd1, hgd2, rfl⟩ := hab gd oo rfl
    have HI3 := Lib.hid (HV1.out.below hb3)
    have HD3 := Lib.hid (bk_below HV2.out hb3)
    have HCD := Lib.hid hcd
    have hf1 := bk_frozen HD3.out 1
    have hd1 : w3.cell? ⟨w2.heap.size, 1, none⟩ = some (.slice (some ⟨b, o, none⟩) C.nW cW) := (bk_cell HD3.out 1).trans rfl
    have hz3 := hb3.size
    have HBK := Lib.hid (ownF_blk o2)
    clear o1 o2 b1 g1 hab hanil hcd hb3 c0 c1 c2
    go_upto_region 5 with fail
    refine wp_abs (fun U => InV C ⟨pP, cP, some ⟨b, o, none⟩, cW, pC, cC⟩ w.heap.size w U ∧ DS C ⟨pP, cP, some ⟨b, o, none⟩, cW, pC, cC⟩ w2.heap.size gd cc U ∧ Sl2 U (some ⟨gd, 0, none⟩) C.nW C.wp C.wt ∧ w2.heap.size < gd ∧ gd < U.heap.size) ?_ ?_
    · have hk3 : Kept w2.heap.size w3 (w3.setCell ⟨w2.heap.size, 1, none⟩ (.slice (some ⟨gd, 0, none⟩) C.nW cc)) := (Kept.refl _ _).setCell 1 _
      obtain ⟨cur, hcur, hcs⟩ := HBK.out
      refine ⟨HI3.out.kept HI0.out hk3 (by omega) (by have := HI2.out.2.2.size; omega), ⟨bk_set HD3.out 1 _, cur, hk3.blk hcur (by omega), hcs⟩, .inr ⟨gd, 0, rfl, fun i hi => ⟨?_, ?_⟩⟩, by omega, by simpa using hgd2⟩
      · exact hk3.cell (by simpa [two2] using HCD.out i hi 0 (by decide)) (by omega)
      · exact hk3.cell (by simpa [two2] using HCD.out i hi 1 (by decide)) (by omega)
    clear hf1 hd1
    rintro U ⟨hu1, hu2, hu3, hgw, hgu⟩
    have HU1 := Lib.hid hu1
    have HU2 := Lib.hid hu2
    have HUI := Lib.hid (show IsC U C ⟨pP, cP, some ⟨gd, 0, none⟩, cc, pC, cC⟩ from ⟨hu1.2.1.P, hu3, hu1.2.1.C⟩)
    have d0 : U.cell? ⟨w2.heap.size, 0, none⟩ = some (.slice pP C.nP cP) := (bk_cell hu2.blk 0).trans rfl
    have d1 : U.cell? ⟨w2.heap.size, 1, none⟩ = some (.slice (some ⟨gd, 0, none⟩) C.nW cc) := (bk_cell hu2.blk 1).trans rfl
    have d2 : U.cell? ⟨w2.heap.size, 2, none⟩ = some (.slice pC C.nC cC) := (bk_cell hu2.blk 2).trans rfl
    clear hu1 hu2 hu3 HI3 HD3 HCD HBK HV1 HV2 HSF
    have hnd := HSN.out ⟨pP, cP, some ⟨gd, 0, none⟩, cc, pC, cC⟩
    have hnc := HSN.out ⟨pP, cP, some ⟨b, o, none⟩, cW, pC, cC⟩
    simp only at hnd hnc
    have HND := Lib.hid hnd
    have HNC := Lib.hid hnc
    clear hnd hnc
    go_wp2_with fail
    clear d0 d1 d2
    refine (HND.out _ (by exact HUI.out)).mono ?_; rintro e w4 ⟨ga, gla, capa, rfl, hs4, hga, hgla, hb4⟩
    have HI4 := Lib.hid (HU1.out.below hb4)
    have HD4 := Lib.hid (HU2.out.below hb4)
    have HA4 := Lib.hid hs4
    obtain ⟨la1, la2, la3⟩ := hs4.lts (by omega)
    obtain ⟨c0, c1, c2⟩ := HI4.out.cells
    clear hb4 hs4
    go_wp2_with fail
    clear c0 c1 c2
    refine (HNC.out _ (by exact HI4.out.2.1)).mono ?_; rintro e w5 ⟨gb, glb, capb, rfl, hs5, hgb, hglb, hb5⟩
    have HI5 := Lib.hid (HI4.out.below hb5)
    have HD5 := Lib.hid (HD4.out.below hb5)
    have HA5 := Lib.hid (HA4.out.below hb5)
    have HB5 := Lib.hid hs5
    obtain ⟨lb1, lb2, lb3⟩ := hs5.lts (by omega)
    clear hb5 hs5
    go_wp2_with fail
    go_loopw [10] (fun iv W' => ∃ i : Nat, i ≤ C.nW ∧ iv = .int .i64 i ∧ DS C ⟨pP, cP, some ⟨b, o, none⟩, cW, pC, cC⟩ w2.heap.size gd cc W' ∧ AtT W' ga gla capa C 0 ∧ AtT W' gb glb capb C 0 ∧ Below w.heap.size w W') (fun iv _ => C.nW - (intOf iv).toNat)
    case atStart => exact ⟨0, by omega, rfl, HD5.out, HA5.out, HB5.out, HI5.out.2.2⟩
    case round =>
      obtain ⟨i, hi, rfl, hds, hsa, hsb, hb⟩ := hrel
      have d1 : wr.cell? ⟨w2.heap.size, 1, none⟩ = some (.slice (some ⟨gd, 0, none⟩) C.nW cc) := (bk_cell hds.blk 1).trans rfl
      have HDS := Lib.hid hds
      have HSA := Lib.hid hsa
      have HSB := Lib.hid hsb
      have HB := Lib.hid hb
      clear hds hsa hsb hb
      by_cases hin : i < C.nW
      · have hin' : (i : Int) < C.nW := by omega
        have hi0 : (0 : Int) ≤ (i : Int) := by omega
        obtain ⟨cur, hcur, hcs⟩ := HDS.out.row
        have hx0 : cur[i * 2]? = some (cur[i * 2]'(by omega)) := Array.getElem?_eq_getElem (by omega)
        have hx1 : cur[i * 2 + 1]? = some (cur[i * 2 + 1]'(by omega)) := Array.getElem?_eq_getElem (by omega)
        have e0 : wr.cell? ⟨gd, i * 2, none⟩ = some (cur[i * 2]'(by omega)) := (bk_cell hcur _).trans hx0
        have e1 : wr.cell? ⟨gd, i * 2 + 1, none⟩ = some (cur[i * 2 + 1]'(by omega)) := (bk_cell hcur _).trans hx1
        have f0 := bk_frozen hcur (i * 2)
        have f1 := bk_frozen hcur (i * 2 + 1)
        generalize cur[i * 2]'(by omega) = y0 at *
        generalize cur[i * 2 + 1]'(by omega) = y1 at *
        have HCU := Lib.hid hcur
        clear hcur hx0 hx1
        go_wp2
        have hk : Kept gd wr ((wr.setCell ⟨gd, i * 2, none⟩ (.int .i64 7)).setCell ⟨gd, i * 2 + 1, none⟩ (.int .i64 1)) := ((Kept.refl _ _).setCell _ _).setCell _ _
        refine ⟨⟨i + 1, by omega, by go_num, ⟨hk.blk HDS.out.blk (by omega), _, bk_set (bk_set HCU.out _ _) _ _, by simpa using hcs⟩, HSA.out.kept hk (by omega) (by omega), HSB.out.kept hk (by omega) (by omega), Kept.below HB.out hk (by have := HI2.out.2.2.size; omega) HB.out.size⟩, by simp [intOf]; omega⟩
      · have hin' : ¬ (i : Int) < C.nW := by omega
        obtain ⟨wo, rfl⟩ : ∃ wo : World, wo = wr := ⟨_, rfl⟩
        have hwz : w.heap.size ≤ ga := by have := HI2.out.2.2.size; omega
        have hwz2 : w.heap.size ≤ gb := by omega
        go_wp2_with fail
        clear d1
        go_loopw [11] (fun iv W' => ∃ j : Nat, j ≤ n ∧ iv = .int .i64 j ∧ AtT W' ga gla capa C j ∧ AtT W' gb glb capb C 0 ∧ Below w.heap.size w W') (fun iv _ => n - (intOf iv).toNat)
        case atStart => exact ⟨0, by omega, rfl, HSA.out, HSB.out, HB.out⟩
        case round =>
          obtain ⟨j, hj, rfl, hsa, hsb, hb⟩ := hrel
          have HSA2 := Lib.hid hsa
          have HSB2 := Lib.hid hsb
          have HB2 := Lib.hid hb
          clear hsa hsb hb
          by_cases hjn : j < n
          · have hjn' : (j : Int) < n := by omega
            have htk := HTK.out ga gla capa j
            generalize C.wp (stA C j) = pa at *
            generalize C.wp (stA C (j + 1)) = pb at *
            have HT := Lib.hid htk
            clear htk
            go_wp2_with fail
            refine (HT.out _ HSA2.out (by omega)).mono ?_; rintro e w6 ⟨rfl, hs6, hk6⟩
            have HA6 := Lib.hid hs6
            have HB6 := Lib.hid (HSB2.out.kept hk6 (by omega) (by omega))
            have HBB := Lib.hid (Kept.below HB2.out hk6 hwz HB2.out.size)
            clear hs6 hk6
            go_wp2
            exact ⟨⟨j + 1, by omega, by go_num, HA6.out, HB6.out, HBB.out⟩, by simp [intOf]; omega⟩
          · have hjn' : ¬ (j : Int) < n := by omega
            obtain rfl : j = n := by omega
            obtain ⟨wq, rfl⟩ : ∃ wq : World, wq = wr := ⟨_, rfl⟩
            have htb := HTA.out gb glb capb 0
            have hwb := HWA.out gb glb capb 0
            rw [HZ.out.1] at hwb
            have HTB := Lib.hid htb
            have HWB := Lib.hid hwb
            clear htb hwb
            go_wp2_with fail
            refine (HTB.out _ HSB2.out).mono ?_; rintro e w7 ⟨rfl, hb7⟩
            have HA7 := Lib.hid (HSA2.out.below hb7)
            have HB7 := Lib.hid (HSB2.out.below hb7)
            have HBB7 := Lib.hid (bstep HB2.out hb7)
            clear hb7
            go_wp2_with fail
            refine (HWB.out _ HB7.out).mono ?_; rintro e w8 ⟨rfl, hb8⟩
            have HA8 := Lib.hid (HA7.out.below hb8)
            have HB8 := Lib.hid (HB7.out.below hb8)
            have HBB8 := Lib.hid (bstep HBB7.out hb8)
            clear hb8
            go_wp2_with fail
            go_loopw [12] (fun iv W' => ∃ j2 : Nat, j2 ≤ j ∧ iv = .int .i64 j2 ∧ AtT W' ga gla capa C j ∧ AtT W' gb glb capb C j2 ∧ Below w.heap.size w W') (fun iv _ => j - (intOf iv).toNat)
            case atStart => exact ⟨0, by omega, rfl, HA8.out, HB8.out, HBB8.out⟩
            case round =>
              obtain ⟨j2, hj2, rfl, hsa, hsb, hb⟩ := hrel
              have HSA3 := Lib.hid hsa
              have HSB3 := Lib.hid hsb
              have HB3 := Lib.hid hb
              clear hsa hsb hb
              by_cases hjm : j2 < j
              · have hjm' : (j2 : Int) < j := by omega
                have htk := HTK.out gb glb capb j2
                generalize C.wp (stA C j2) = pa at *
                generalize C.wp (stA C (j2 + 1)) = pb at *
                have HT := Lib.hid htk
                clear htk
                go_wp2_with fail
                refine (HT.out _ HSB3.out (by omega)).mono ?_; rintro e w9 ⟨rfl, hs9, hk9⟩
                have HB9 := Lib.hid hs9
                have HA9 := Lib.hid (HSA3.out.kept hk9 (by omega) (by omega))
                have HBB9 := Lib.hid (Kept.below HB3.out hk9 hwz2 HB3.out.size)
                clear hs9 hk9
                go_wp2
                exact ⟨⟨j2 + 1, by omega, by go_num, HA9.out, HB9.out, HBB9.out⟩, by simp [intOf]; omega⟩
              · have hjm' : ¬ (j2 : Int) < j := by omega
                obtain rfl : j2 = j := by omega
                have p1 := HPA.out ga gla capa j2
                have p2 := HPA.out gb glb capb j2
                have p3 := HWA.out ga gla capa j2
                have p4 := HWA.out gb glb capb j2
                have p5 := HLA.out ga gla capa j2
                have p6 := HLA.out gb glb capb j2
                have p7 := HTA.out ga gla capa j2
                have p8 := HTA.out gb glb capb j2
                generalize C.wt (stA C j2) - stG C j2 = lf at *
                generalize C.wp (stA C j2) = pp at *
                generalize stA C j2 = aa at *
                have P1 := Lib.hid p1
                have P2 := Lib.hid p2
                have P3 := Lib.hid p3
                have P4 := Lib.hid p4
                have P5 := Lib.hid p5
                have P6 := Lib.hid p6
                have P7 := Lib.hid p7
                have P8 := Lib.hid p8
                clear p1 p2 p3 p4 p5 p6 p7 p8
                go_wp2_with fail
                refine (P1.out _ HSA3.out).mono ?_; rintro e v1 ⟨rfl, hb1⟩
                have A1 := Lib.hid (HSA3.out.below hb1)
                have B1 := Lib.hid (HSB3.out.below hb1)
                have D1 := Lib.hid (bstep HB3.out hb1)
                clear hb1
                go_wp2_with fail
                refine (P2.out _ B1.out).mono ?_; rintro e v2 ⟨rfl, hb2⟩
                have A2 := Lib.hid (A1.out.below hb2)
                have B2 := Lib.hid (B1.out.below hb2)
                have D2 := Lib.hid (bstep D1.out hb2)
                clear hb2
                go_wp2_with fail
                refine (P3.out _ A2.out).mono ?_; rintro e v3 ⟨rfl, hb3⟩
                have A3 := Lib.hid (A2.out.below hb3)
                have B3 := Lib.hid (B2.out.below hb3)
                have D3 := Lib.hid (bstep D2.out hb3)
                clear hb3
                go_wp2_with fail
                refine (P4.out _ B3.out).mono ?_; rintro e v4 ⟨rfl, hb4⟩
                have A4 := Lib.hid (A3.out.below hb4)
                have B4 := Lib.hid (B3.out.below hb4)
                have D4 := Lib.hid (bstep D3.out hb4)
                clear hb4
                go_wp2_with fail
                refine (P5.out _ A4.out).mono ?_; rintro e v5 ⟨rfl, hb5⟩
                have A5 := Lib.hid (A4.out.below hb5)
                have B5 := Lib.hid (B4.out.below hb5)
                have D5 := Lib.hid (bstep D4.out hb5)
                clear hb5
                go_wp2_with fail
                refine (P6.out _ B5.out).mono ?_; rintro e v6 ⟨rfl, hb6⟩
                have A6 := Lib.hid (A5.out.below hb6)
                have B6 := Lib.hid (B5.out.below hb6)
                have D6 := Lib.hid (bstep D5.out hb6)
                clear hb6
                go_wp2_with fail
                refine (P7.out _ A6.out).mono ?_; rintro e v7 ⟨rfl, hb7⟩
                have A7 := Lib.hid (A6.out.below hb7)
                have B7 := Lib.hid (B6.out.below hb7)
                have D7 := Lib.hid (bstep D6.out hb7)
                clear hb7
                go_wp2_with fail
                refine (P8.out _ B7.out).mono ?_; rintro e v8 ⟨rfl, hb8⟩
                have D8 := Lib.hid (bstep D7.out hb8)
                clear hb8
                go_wp2_with fail
                refine (awake_any _).mono ?_; rintro e v9 ⟨rfl, hb9⟩
                go_wp2
                go_ret
                exact ⟨rfl, bstep D8.out hb9⟩
theorem SchedTwo_any (C : Cfg) (ly : Lay) (n : Int) (w : World) (hI : IsC w C ly) :
    Calls Try.prog 6 #[.agg (cfgV C ly), .int .i64 n] w fun e w' => e = .returned (.bool true) ∧ Below w.heap.size w w' := by
  by_cases h : Long C ∨ ¬ CkOk C ∨ n < 0 ∨ 200 < n
  · exact two_out C ly n w hI h
  · have h1 : ¬ Long C := fun h' => h (.inl h')
    have h2 : CkOk C := Classical.byContradiction fun h' => h (.inr (.inl h'))
    have h3 : ¬ n < 0 := fun h' => h (.inr (.inr (.inl h')))
    have h4 : ¬ 200 < n := fun h' => h (.inr (.inr (.inr h')))
    obtain ⟨m, rfl⟩ : ∃ m : Nat, n = m := ⟨n.toNat, by omega⟩
    exact two_in C ly m w hI h1 h2 (by omega)
end Go.Proofs.Ytlmgkdilidgkgaa
