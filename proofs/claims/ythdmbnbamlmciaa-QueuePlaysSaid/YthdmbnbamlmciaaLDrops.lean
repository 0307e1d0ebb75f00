/- Helper text of this seat (LDrops): contracts of functions of the given program and of its references, each told by its theorem. -/
import Derived.Test.YthdmbnbamlmciaaLRound
namespace Go.Proofs.Ythdmbnbamlmciaa
open Go.RowKit
set_option linter.unusedVariables false
set_option linter.unusedSimpArgs false
theorem fold_erase : ∀ (D A : List Int), A.Nodup → D.foldl List.erase A = A.filter fun x => decide (x ∉ D)
  | [], A, _ => by
    rw [List.foldl_nil, List.filter_eq_self.2]
    intro x _
    simp
  | d :: D, A, h => by
    rw [List.foldl_cons, fold_erase D (A.erase d) (h.erase d), h.erase_eq_filter, List.filter_filter]
    apply List.filter_congr
    intro x _
    by_cases e : x = d <;> simp [e]
theorem fold_step (D A : List Int) (j : Nat) (h : j < D.length) : (D.take (j + 1)).foldl List.erase A = ((D.take j).foldl List.erase A).erase (D.getD j 0) := by
  rw [List.take_succ_eq_append_getElem h, List.foldl_append]
  simp [List.getD_eq_getElem?_getD, h]
theorem Sl.list {w : World} {q : IntKind} {p : Option Addr} {L : Nat} {X : Nat → Int} (h : Sl w q p L X) : ∃ Z : List Int, Z.length = L ∧ Sl w q p L (fun i => Z.getD i 0) ∧ ∀ i, i < L → Z.getD i 0 = X i := by
  have e : ∀ i, i < L → ((List.range L).map X).getD i 0 = X i := fun i hi => by simp [List.getD_eq_getElem?_getD, hi]
  refine ⟨(List.range L).map X, by simp, ?_, e⟩
  rcases h with h | ⟨b, o, e1, hc⟩
  · exact .inl h
  · exact .inr ⟨b, o, e1, fun i hi => by simp only [e i hi]; exact hc i hi⟩
/-- is it there? -/
def hasB (zs : List Int) (n : Int) : Bool := decide (n ∈ zs)
theorem has_any (p : Option Addr) (cap : Nat) (zs : List Int) (n : Int) (w : World) (hs : Sl w .i64 p zs.length (fun i => zs.getD i 0)) (hL : zs.length ≤ 100000) :
    Calls Try.prog 18 #[.slice p zs.length cap, .int .i64 n] w fun e w' => e = .returned (.bool (hasB zs n)) ∧ w' = w := by
  have hle := idx_le zs n
  go_enter Try.func18, Try.ntmps18
  go_wp2
  go_loop [5] (fun i => ∃ k : Nat, k ≤ idx zs n ∧ i = .int .i64 k) (fun i => zs.length - (intOf i).toNat)
  case atStart => exact ⟨0, by omega, rfl⟩
  case round =>
    obtain ⟨k, hk, rfl⟩ := hrel
    by_cases hkL : k < zs.length
    · have hkL' : (k : Int) < zs.length := by omega
      rcases hs with h0 | ⟨b, o, rfl, hc⟩
      · omega
      have c1 := hc k hkL
      have HC := Lib.hid hc
      clear hc
      by_cases he : zs.getD k 0 = n
      · have hkn : k = idx zs n := by
          by_cases h : k = idx zs n
          · exact h
          · exact absurd he (idx_before zs n k (by omega))
        have hm : n ∈ zs := by
          by_cases h : n ∈ zs
          · exact h
          · have := idx_not zs n h; omega
        have hfin : hasB zs n = true := by simp [hasB, hm]
        have HF := Lib.hid hfin
        clear hfin hkn hm
        simp only [he] at c1
        clear he hle
        go_wp2
        go_ret
        exact ⟨by rw [HF.out]; rfl, rfl⟩
      · have hkn : k + 1 ≤ idx zs n := by
          by_cases h : k = idx zs n
          · by_cases h2 : n ∈ zs
            · rw [h] at he; exact absurd (idx_at zs n h2) he
            · have := idx_not zs n h2; omega
          · omega
        have he1 : (zs.getD k 0 == n) = false := beq_eq_false_iff_ne.2 he
        obtain ⟨x, hx⟩ : ∃ x, zs.getD k 0 = x := ⟨_, rfl⟩
        simp only [hx] at c1 he1
        clear hx he
        go_wp2
        refine ⟨⟨k + 1, hkn, by go_num⟩, by simp [intOf]; omega⟩
    · have hm : n ∉ zs := fun h => by have := idx_lt zs n h; omega
      have hfin : hasB zs n = false := by simp [hasB, hm]
      have HF := Lib.hid hfin
      clear hfin hm
      have hkL' : ¬ (k : Int) < zs.length := by omega
      go_wp2
      go_ret
      exact ⟨by rw [HF.out]; rfl, rfl⟩
theorem drops_long (p1 p2 : Option Addr) (L1 L2 c1 c2 : Nat) (w : World) (h : 100 < L1 ∨ 100 < L2) :
    Calls Try.prog 6 #[.slice p1 L1 c1, .slice p2 L2 c2] w fun e w' => e = .returned (.bool true) ∧ Below w.heap.size w w' := by
  have h' : (100 : Int) < L1 ∨ (¬ (100 : Int) < L1 ∧ (100 : Int) < L2) := by omega
  rcases h' with h1 | ⟨h1, h2⟩
  all_goals
    go_enter Try.func6, Try.ntmps6
    go_wp2_with fail
    refine (awake_any _).mono ?_; rintro e w3 ⟨rfl, b3⟩
    go_wp2
    go_ret
    exact ⟨rfl, b3⟩
/-- what is wanted of the first ones -/
def wantL (D A : List Int) : List Int := A.filter fun x => !hasB D x
theorem wantL_snoc (D A : List Int) (x : Int) : wantL D (A ++ [x]) = if hasB D x then wantL D A else wantL D A ++ [x] := by
  unfold wantL
  rw [List.filter_append]
  cases h : hasB D x <;> simp [h]
theorem wantL_fold (D A : List Int) (h : A.Nodup) : D.foldl List.erase A = wantL D A := by
  rw [fold_erase D A h]
  unfold wantL hasB
  apply List.filter_congr
  intro x _
  simp
theorem wantL_le (D A : List Int) : (wantL D A).length ≤ A.length := List.length_filter_le _ _
theorem wantL_mem {D A : List Int} {x : Int} (h : x ∈ wantL D A) : x ∈ A := (List.mem_filter.1 h).1
set_option maxHeartbeats 8000000 in
theorem drops_some (p1 p2 : Option Addr) (c1 c2 : Nat) (Z D : List Int) (w : World) (hZ : Z.length ≤ 100) (hD : D.length ≤ 100) (hs1 : Sl w .i64 p1 Z.length (fun i => Z.getD i 0)) (hs2 : Sl w .i64 p2 D.length (fun i => D.getD i 0)) :
    Calls Try.prog 6 #[.slice p1 Z.length c1, .slice p2 D.length c2] w fun e w' => e = .returned (.bool true) ∧ Below w.heap.size w w' := by
  have h1' : ¬ (100 : Int) < Z.length := by omega
  have h2' : ¬ (100 : Int) < D.length := by omega
  have HS1 := Lib.hid hs1
  have HS2 := Lib.hid hs2
  clear hs1 hs2
  go_enter Try.func6, Try.ntmps6
  go_wp2_with fail
  refine (new_q _).mono ?_; rintro e w1 ⟨g, rfl, h1, hg1, hb1⟩
  have hgl := h1.lt
  have H1 := Lib.hid h1
  have HB1 := Lib.hid hb1
  clear h1 hb1
  go_wp2_with fail
  go_loopw [6] (fun i W' => ∃ (k : Nat) (A : List Int), k ≤ Z.length ∧ i = .int .i64 k ∧ IsQ W' g A ∧ Below w.heap.size w W') (fun i _ => Z.length - (intOf i).toNat)
  case atStart => exact ⟨0, [], by omega, rfl, H1.out, HB1.out⟩
  case round =>
    obtain ⟨k, A, hk, rfl, hq, hb⟩ := hrel
    have HQ := Lib.hid hq
    have HB := Lib.hid hb
    clear hq hb
    by_cases hkL : k < Z.length
    · have hkL' : (k : Int) < Z.length := by omega
      rcases HS1.out with h0 | ⟨b, o, e5, hc⟩
      · omega
      subst e5
      have c1 := keepc HB.out (hc k hkL)
      obtain ⟨x, hx⟩ : ∃ x, Z.getD k 0 = x := ⟨_, rfl⟩
      simp only [hx] at c1
      clear hc hx
      go_wp2_with fail
      refine (push_any g A x _ HQ.out).mono ?_; rintro e w2 ⟨rfl, h2, hk2⟩
      have HB2 := Lib.hid (hk2.below HB.out hg1 HB.out.size)
      have H2 := Lib.hid h2
      clear c1 h2 hk2
      go_wp2
      exact ⟨⟨k + 1, _, by omega, by go_num, H2.out, HB2.out⟩, by simp [intOf]; omega⟩
    · have hkL' : ¬ (k : Int) < Z.length := by omega
      have hgood : Good A := by obtain ⟨_, _, _, _, _, _, hg⟩ := HQ.out; exact hg
      have hA8 := hgood.le
      have HG := Lib.hid hgood
      clear hgood
      have hgw := HQ.out.lt
      obtain ⟨wo, rfl⟩ : ∃ wo : World, wo = wr := ⟨_, rfl⟩
      go_wp2_with fail
      refine (all_any g A _ HQ.out).mono ?_; rintro e w3 ⟨va, rfl, ho3, hb3⟩
      obtain ⟨pa, ca, e1, hsl, hlt⟩ := own_sl ho3
      subst e1
      have hgo : g < w3.heap.size := Nat.lt_of_lt_of_le hgw hb3.size
      have hpg : ∀ b o, pa = some ⟨b, o, none⟩ → b ≠ g := fun b o e => by have := hlt b o e; omega
      have HSA := Lib.hid hsl
      have HPG := Lib.hid hpg
      have HQ3 := Lib.hid (HQ.out.below hb3)
      have HB3 := Lib.hid (bstep HB.out hb3)
      have HD3 := Lib.hid (HS2.out.below HB3.out)
      clear ho3 hb3 hsl hpg hlt
      go_wp2_with fail
      go_loopw [7, 9] (fun v i W' => ∃ j : Nat, j ≤ A.length ∧ i = .int .i64 j ∧ W'.ownsInts w3.heap.size 3 .i64 v (wantL D (A.take j)) ∧ Below w3.heap.size w3 W') (fun _ i _ => A.length - (intOf i).toNat)
      case atStart => exact ⟨0, by omega, rfl, World.ownsInts_nil _ _ _ _, Below.refl _ _⟩
      case round =>
        obtain ⟨j, hj, rfl, ho4, hb4⟩ := hrel
        by_cases hjA : j < A.length
        · have hjA' : (j : Int) < A.length := by omega
          obtain ⟨x, e1, e2, e3, e4⟩ := rot_step A j hjA
          have hx := HG.out.2 x e4
          rcases HSA.out with h0 | ⟨b, o, e5, hc⟩
          · omega
          subst e5
          have cx := hc j hjA
          simp only [e3] at cx
          have cx4 := keepc hb4 cx
          have HD4 := Lib.hid (HD3.out.below hb4)
          have HO4 := Lib.hid ho4
          have HB4 := Lib.hid hb4
          have hz4 := hb4.size
          have HE2 := Lib.hid e2
          have hwl : (wantL D (A.take j)).length < 100000000 := by have := wantL_le D (A.take j); rw [List.length_take] at this; omega
          clear hc cx ho4 hb4 e1 e2 e3 e4
          go_wp2_with fail
          refine (has_any p2 c2 D x _ HD4.out (by omega)).mono ?_; rintro e w5 ⟨rfl, rfl⟩
          cases hh : hasB D x with
          | true =>
            have HH := Lib.hid hh
            clear hh
            go_wp2
            refine ⟨⟨j + 1, by omega, by go_num, ?_, HB4.out⟩, by simp [intOf]; omega⟩
            rw [HE2.out, wantL_snoc, if_pos HH.out]
            exact HO4.out
          | false =>
            have HH := Lib.hid hh
            clear hh
            go_wp2_with (at_builtin; refine app1 rfl _ _ _ rfl ie22 _ (wantL D (A.take j)) x (by rfl) HO4.out (by rfl) (wf_small (by omega) (by omega)) hwl (by omega) ?_; intro v' w6 o6 hb6 hg6)
            refine ⟨⟨j + 1, by omega, by go_num, ?_, HB4.out.trans hb6⟩, by simp [intOf]; omega⟩
            rw [HE2.out, wantL_snoc, if_neg (by rw [HH.out]; simp)]
            exact o6
        · have hjn : j = A.length := by omega
          subst hjn
          rw [List.take_length] at ho4
          obtain ⟨w4, rfl⟩ : ∃ wo : World, wo = wr := ⟨_, rfl⟩
          obtain ⟨pw, cw, e6, hslw, hltw⟩ := own_sl ho4
          subst e6
          have hpg : ∀ b o, pw = some ⟨b, o, none⟩ → b ≠ g := fun b o e => by have := hltw b o e; omega
          have HPW := Lib.hid hpg
          have HSW := Lib.hid hslw
          have HQ4 := Lib.hid (HQ3.out.b hb4 hgo)
          have HB4 := Lib.hid (bstep HB3.out hb4)
          have hg4 : g < w4.heap.size := Nat.lt_of_lt_of_le hgo hb4.size
          clear ho4 hb4 hslw hltw hpg
          have hWl := wantL_le D A
          have hWm : ∀ x ∈ wantL D A, 1 ≤ x ∧ x ≤ 8 := fun x hx => HG.out.2 x (wantL_mem hx)
          have hWn : (wantL D A).Nodup := HG.out.1.filter _
          have hfold := wantL_fold D A HG.out.1
          generalize wantL D A = B at *
          have HWm := Lib.hid hWm
          have HWn := Lib.hid hWn
          have HFO := Lib.hid hfold
          clear hWm hWn hfold
          go_wp2_with fail
          go_loopw [10] (fun i W' => ∃ j : Nat, j ≤ D.length ∧ i = .int .i64 j ∧ IsQ W' g ((D.take j).foldl List.erase A) ∧ Kept g w4 W') (fun i _ => D.length - (intOf i).toNat)
          case atStart => exact ⟨0, by omega, rfl, by simpa using HQ4.out, Kept.refl _ _⟩
          case round =>
            obtain ⟨j, hj, rfl, hq5, hk5⟩ := hrel
            by_cases hjD : j < D.length
            · have hjD' : (j : Int) < D.length := by omega
              have hstep := fold_step D A j hjD
              rcases HS2.out with h0 | ⟨b, o, e5, hc⟩
              · omega
              subst e5
              have cx := keepc HB4.out (hc j hjD)
              have hbl : b < w.heap.size := block_lt_of_cell (hc j hjD)
              have cx5 := hk5.cell cx (by omega)
              obtain ⟨x, hx⟩ : ∃ x, D.getD j 0 = x := ⟨_, rfl⟩
              rw [hx] at hstep
              simp only [hx] at cx5
              have HST := Lib.hid hstep
              have HQ5 := Lib.hid hq5
              have HK5 := Lib.hid hk5
              clear hq5 hk5 hstep hc cx hx
              go_wp2_with fail
              refine (drop_any g _ x _ HQ5.out).mono ?_; rintro e w6 ⟨rfl, h6, hk6⟩
              have H6 := Lib.hid h6
              have HK6 := Lib.hid (HK5.out.trans hk6)
              clear h6 hk6 cx5
              go_wp2
              exact ⟨⟨j + 1, by omega, by go_num, by rw [HST.out]; exact H6.out, HK6.out⟩, by simp [intOf]; omega⟩
            · have hjn : j = D.length := by omega
              subst hjn
              rw [List.take_length, HFO.out] at hq5
              have HQ5 := Lib.hid hq5
              have HK5 := Lib.hid hk5
              clear hq5 hk5
              go_wp2_with fail
              refine (all_any g B _ HQ5.out).mono ?_; rintro e w6 ⟨v6, rfl, ho6, hb6⟩
              obtain ⟨p6, c6, e6, hsl6, _⟩ := own_sl ho6
              subst e6
              have HS6 := Lib.hid hsl6
              have HQ6 := Lib.hid (HQ5.out.below hb6)
              have HK6 := Lib.hid (HK5.out.then_below hb6)
              have HSW6 := Lib.hid (HSW.out.kept HK6.out HPW.out)
              clear ho6 hb6 hsl6
              go_wp2_with fail
              refine (same_yes p6 pw c6 cw B _ HS6.out HSW6.out (by omega)).mono ?_; rintro e w7 ⟨rfl, hb7⟩
              have HQ7 := Lib.hid (HQ6.out.below hb7)
              have HK7 := Lib.hid (HK6.out.then_below hb7)
              clear hb7
              go_wp2_with fail
              go_loopw [11] (fun i W' => ∃ j : Nat, j ≤ B.length ∧ i = .int .i64 j ∧ IsQ W' g (B.drop j ++ B.take j) ∧ Kept g w4 W') (fun i _ => B.length - (intOf i).toNat)
              case atStart => exact ⟨0, by omega, rfl, by simpa using HQ7.out, HK7.out⟩
              case round =>
                obtain ⟨j, hj, rfl, hq8, hk8⟩ := hrel
                by_cases hjB : j < B.length
                · have hjB' : (j : Int) < B.length := by omega
                  obtain ⟨x, e1, e2, e3, e4⟩ := rot_step B j hjB
                  have hx := HWm.out x e4
                  rw [e1, List.cons_append] at hq8
                  have hg8 : Good (x :: (B.drop (j + 1) ++ B.take j)) := by obtain ⟨_, _, _, _, _, _, hg⟩ := hq8; exact hg
                  have hdE : dropE (x :: (B.drop (j + 1) ++ B.take j)) x = 0 := by
                    unfold dropE
                    rw [if_neg (by omega), if_pos (by simp)]
                  have hdL : (x :: (B.drop (j + 1) ++ B.take j)).erase x = B.drop (j + 1) ++ B.take j := by simp
                  have hpE : pushE (B.drop (j + 1) ++ B.take j) x = 0 := by
                    unfold pushE
                    rw [if_neg (by omega), if_neg (List.nodup_cons.1 hg8.1).1]
                  have hpL : pushL (B.drop (j + 1) ++ B.take j) x = B.drop (j + 1) ++ B.take (j + 1) := by
                    unfold pushL
                    rw [if_pos hpE, e2, List.append_assoc]
                  have hll : (B.drop (j + 1) ++ B.take (j + 1)).length = B.length := by simp; omega
                  have hlast : (B.drop (j + 1) ++ B.take (j + 1)).getD (B.length - 1) 0 = x := by
                    rw [e2, ← List.append_assoc, List.getD_eq_getElem?_getD, List.getElem?_append_right (by simp; omega)]
                    simp
                    have : B.length - 1 - (B.length - (j + 1) + j) = 0 := by omega
                    rw [show B.length - 1 - (B.length - (j + 1) + min j B.length) = 0 from by omega]
                    rfl
                  have hdr := fun (W : World) (h : IsQ W g (x :: (B.drop (j + 1) ++ B.take j))) => drop_any g _ x W h
                  rw [hdE, hdL] at hdr
                  have hpu := fun (W : World) (h : IsQ W g (B.drop (j + 1) ++ B.take j)) => push_any g _ x W h
                  rw [hpE, hpL] at hpu
                  generalize hC : B.drop (j + 1) ++ B.take (j + 1) = C at *
                  have HC := Lib.hid hC
                  clear hC
                  rcases HSW.out with h0 | ⟨b, o, e5, hc⟩
                  · omega
                  have hbg := HPW.out b o e5
                  subst e5
                  have cx := hk8.cell (hc j hjB) hbg
                  simp only [e3] at cx
                  have HQ8 := Lib.hid hq8
                  have HK8 := Lib.hid hk8
                  have HDR := Lib.hid hdr
                  have HPU := Lib.hid hpu
                  have HLL := Lib.hid hll
                  have HLA := Lib.hid hlast
                  clear hq8 hk8 hc e1 e2 e3 e4 hg8 hdE hdL hpE hpL hdr hpu hll hlast
                  go_wp2_with fail
                  refine (HDR.out _ HQ8.out).mono ?_; rintro e w9 ⟨rfl, h9, hk9⟩
                  have H9 := Lib.hid h9
                  have HK9 := Lib.hid (HK8.out.trans hk9)
                  clear h9 hk9 cx
                  go_wp2_with fail
                  refine (HPU.out _ H9.out).mono ?_; rintro e w10 ⟨rfl, h10, hk10⟩
                  have H10 := Lib.hid h10
                  have HK10 := Lib.hid (HK9.out.trans hk10)
                  clear h10 hk10
                  go_wp2_with fail
                  refine (all_any g C _ H10.out).mono ?_; rintro e w11 ⟨v11, rfl, ho11, hb11⟩
                  obtain ⟨p11, c11, e11, hsl11, _⟩ := own_sl ho11
                  rw [HLL.out] at e11 hsl11
                  subst e11
                  have H11 := Lib.hid (H10.out.below hb11)
                  have HK11 := Lib.hid (HK10.out.then_below hb11)
                  rcases hsl11 with h0 | ⟨b', o', e12, hc12⟩
                  · omega
                  subst e12
                  have cl := hc12 (B.length - 1) (by omega)
                  simp only [HLA.out] at cl
                  have s1 : IntKind.i64.wrap ((B.length : Int) - 1) = ((B.length - 1 : Nat) : Int) := by rw [IntWalk.i64_in _ (by omega)]; omega
                  clear ho11 hb11 hc12
                  go_wp2
                  exact ⟨⟨j + 1, by omega, by go_num, by rw [HC.out]; exact H11.out, HK11.out⟩, by simp [intOf]; omega⟩
                · have hjn : j = B.length := by omega
                  subst hjn
                  rw [List.drop_length, List.take_length, List.nil_append] at hq8
                  have HQ8 := Lib.hid hq8
                  have HK8 := Lib.hid hk8
                  clear hq8 hk8
                  go_wp2_with fail
                  refine (all_any g B _ HQ8.out).mono ?_; rintro e w9 ⟨v9, rfl, ho9, hb9⟩
                  obtain ⟨p9, c9, e9, hsl9, _⟩ := own_sl ho9
                  subst e9
                  have HS9 := Lib.hid hsl9
                  have HK9 := Lib.hid (HK8.out.then_below hb9)
                  have HSW9 := Lib.hid (HSW.out.kept HK9.out HPW.out)
                  clear ho9 hb9 hsl9
                  go_wp2_with fail
                  refine (same_yes p9 pw c9 cw B _ HS9.out HSW9.out (by omega)).mono ?_; rintro e w10 ⟨rfl, hb10⟩
                  have HB10 := Lib.hid (bstep (HK9.out.below HB4.out hg1 HB4.out.size) hb10)
                  clear hb10
                  go_wp2_with fail
                  refine (awake_any _).mono ?_; rintro e w11 ⟨rfl, b11⟩
                  go_wp2
                  go_ret
                  exact ⟨rfl, bstep HB10.out b11⟩
theorem QueueDrops_any (p1 p2 : Option Addr) (L1 L2 c1 c2 : Nat) (X Y : Nat → Int) (w : World) (h1 : Sl w .i64 p1 L1 X) (h2 : Sl w .i64 p2 L2 Y) :
    Calls Try.prog 6 #[.slice p1 L1 c1, .slice p2 L2 c2] w fun e w' => e = .returned (.bool true) ∧ Below w.heap.size w w' := by
  by_cases hl : 100 < L1 ∨ 100 < L2
  · exact drops_long p1 p2 L1 L2 c1 c2 w hl
  · obtain ⟨Z, rfl, hz, _⟩ := h1.list
    obtain ⟨D, rfl, hd, _⟩ := h2.list
    exact drops_some p1 p2 c1 c2 Z D w (by omega) (by omega) hz hd
end Go.Proofs.Ythdmbnbamlmciaa
