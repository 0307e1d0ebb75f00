/- Helper text of this seat (LRound): contracts of functions of the given program and of its references, each told by its theorem. -/
import Derived.Test.YthdmbnbamlmciaaLw
namespace Go.Proofs.Ythdmbnbamlmciaa
open Go.RowKit
set_option linter.unusedVariables false
set_option linter.unusedSimpArgs false
theorem rot_step (A : List Int) (j : Nat) (h : j < A.length) : ∃ x, A.drop j = x :: A.drop (j + 1) ∧ A.take (j + 1) = A.take j ++ [x] ∧ A.getD j 0 = x ∧ x ∈ A := by
  refine ⟨A[j], List.drop_eq_getElem_cons h, ?_, by simp [List.getD_eq_getElem?_getD, h], List.getElem_mem h⟩
  rw [List.take_succ_eq_append_getElem h]
set_option maxHeartbeats 4000000 in
theorem QueueRound_any (p : Option Addr) (L cap : Nat) (X : Nat → Int) (w : World) (hX : Sl w .i64 p L X) (hXw : ∀ i, i < L → (Lit.int .i64 (X i)).wf = true) :
    Calls Try.prog 3 #[.slice p L cap] w fun e w' => e = .returned (.bool true) ∧ Below w.heap.size w w' := by
  by_cases hL : 100 < L
  · have hL' : (100 : Int) < L := by omega
    go_enter Try.func3, Try.ntmps3
    go_wp2_with fail
    refine (awake_any _).mono ?_; rintro e w3 ⟨rfl, b3⟩
    go_wp2
    go_ret
    exact ⟨rfl, b3⟩
  · have hL' : ¬ (100 : Int) < L := by omega
    have HXw := Lib.hid hXw
    clear hXw
    go_enter Try.func3, Try.ntmps3
    go_wp2_with fail
    refine (new_q _).mono ?_; rintro e w1 ⟨g, rfl, h1, hg1, hb1⟩
    have hgl := h1.lt
    have H1 := Lib.hid h1
    have HB1 := Lib.hid hb1
    have hz1 := hb1.size
    clear h1 hb1
    go_wp2_with fail
    go_loopw [4, 5] (fun v i W' => ∃ (k : Nat) (A : List Int), k ≤ L ∧ A.length ≤ k ∧ i = .int .i64 k ∧ W'.ownsInts w1.heap.size 3 .i64 v A ∧ IsQ W' g A ∧ Below w.heap.size w W' ∧ w1.heap.size ≤ W'.heap.size) (fun _ i _ => L - (intOf i).toNat)
    case atStart => exact ⟨0, [], by omega, by simp, rfl, World.ownsInts_nil _ _ _ _, H1.out, HB1.out, Nat.le_refl _⟩
    case round =>
      obtain ⟨k, A, hk, hAk, rfl, ho, hq, hb, hz⟩ := hrel
      have HO := Lib.hid ho
      have HQ := Lib.hid hq
      have HB := Lib.hid hb
      clear ho hq hb
      by_cases hkL : k < L
      · have hkL' : (k : Int) < L := by omega
        rcases hX with h0 | ⟨b, o, rfl, hc⟩
        · omega
        have c1 := keepc HB.out (hc k hkL)
        have hwf := HXw.out k hkL
        have HC := Lib.hid hc
        have HWF := Lib.hid hwf
        clear hc hwf
        have hbl : b < w.heap.size := block_lt_of_cell (HC.out k hkL)
        go_wp2_with fail
        refine (push_any g A (X k) _ HQ.out).mono ?_; rintro e w2 ⟨rfl, h2, hk2⟩
        have c2 := hk2.cell c1 (by omega)
        have HB2 := Lib.hid (hk2.below HB.out hg1 HB.out.size)
        have HO2 := Lib.hid (own_kept_g HO.out hk2 hgl)
        have hz2 := hk2.size
        have H2 := Lib.hid h2
        clear c1 h2 hk2
        by_cases hE : pushE A (X k) = 0
        · have hpl : pushL A (X k) = A ++ [X k] := by simp [pushL, hE]
          have HPL := Lib.hid hpl
          rw [hE]
          clear hpl hE
          go_wp2_with (at_builtin; refine app1 rfl _ _ _ rfl ie22 _ A (X k) (by rfl) HO2.out (by rfl) HWF.out (by omega) (by omega) ?_; intro v' w3 o3 hb3 hg3)
          have hz3 := hb3.size
          refine ⟨⟨k + 1, A ++ [X k], by omega, by simp; omega, by go_num, o3, ?_, HB2.out.trans (hb3.mono (by have := HB1.out.size; omega)), by omega⟩, by simp [intOf]; omega⟩
          rw [← HPL.out]
          exact H2.out.b hb3 hgl
        · have hpl : pushL A (X k) = A := by simp [pushL, hE]
          have HPL := Lib.hid hpl
          have hE1 : (pushE A (X k) == 0) = false := beq_eq_false_iff_ne.2 hE
          obtain ⟨en, hen⟩ : ∃ en, pushE A (X k) = en := ⟨_, rfl⟩
          rw [hen] at hE1
          rw [hen]
          clear hpl hE hen
          go_wp2
          refine ⟨⟨k + 1, A, by omega, by omega, by go_num, HO2.out, ?_, HB2.out, by omega⟩, by simp [intOf]; omega⟩
          have := H2.out
          rwa [HPL.out] at this
      · have hkL' : ¬ (k : Int) < L := by omega
        obtain ⟨wo, rfl⟩ : ∃ wo : World, wo = wr := ⟨_, rfl⟩
        obtain ⟨pa, ca, e1, hsl, hlt⟩ := own_sl HO.out
        subst e1
        have hgo : g < wo.heap.size := by omega
        have hpg : ∀ b o, pa = some ⟨b, o, none⟩ → b ≠ g := fun b o e => by have := hlt b o e; omega
        have HS := Lib.hid hsl
        have HLT := Lib.hid hlt
        have HPG := Lib.hid hpg
        have hA8 : A.length ≤ 100 := by omega
        clear hsl hlt hpg hX
        go_wp2_with fail
        go_loopw [6, 7] (fun v i W' => ∃ j : Nat, j ≤ A.length ∧ i = .int .i64 j ∧ W'.ownsInts wo.heap.size 3 .i64 v (A.take j) ∧ IsQ W' g (A.drop j ++ A.take j) ∧ Kept g wo W') (fun _ i _ => A.length - (intOf i).toNat)
        case atStart => exact ⟨0, by omega, rfl, World.ownsInts_nil _ _ _ _, by simpa using HQ.out, Kept.refl _ _⟩
        case round =>
          obtain ⟨j, hj, rfl, ho2, hq2, hk2⟩ := hrel
          by_cases hjA : j < A.length
          · have hjA' : (j : Int) < A.length := by omega
            obtain ⟨x, e1, e2, e3, e4⟩ := rot_step A j hjA
            have hg := (by obtain ⟨_, _, _, _, _, _, hg⟩ := HQ.out; exact hg : Good A)
            have hx := hg.2 x e4
            rw [e1, List.cons_append] at hq2
            have HO2 := Lib.hid ho2
            have HQ2 := Lib.hid hq2
            have HK2 := Lib.hid hk2
            have HE1 := Lib.hid e1
            have HE2 := Lib.hid e2
            have hz2 := hk2.size
            have htl : (A.take j).length < 100000000 := by rw [List.length_take]; omega
            clear ho2 hq2 hk2 e1 e2 e3 e4 hg
            go_wp2_with fail
            refine (head_some g x _ _ HQ2.out).mono ?_; rintro e w3 ⟨rfl, hb3⟩
            have HO3 := Lib.hid (own_below HO2.out hb3)
            have HQ3 := Lib.hid (HQ2.out.below hb3)
            have HK3 := Lib.hid (HK2.out.then_below hb3)
            have hz3 := hb3.size
            clear hb3
            go_wp2_with (at_builtin; refine app1 rfl _ _ _ rfl ie22 _ (A.take j) x (by rfl) HO3.out (by rfl) (wf_small (by omega) (by omega)) htl (by omega) ?_; intro v' w4 o4 hb4 hg4)
            have HQ4 := Lib.hid (HQ3.out.b hb4 hgo)
            have HK4 := Lib.hid (HK3.out.then_b hb4 (Nat.le_refl _))
            have HO4 := Lib.hid o4
            clear o4 hb4 hg4
            refine (turn_some g x _ _ HQ4.out).mono ?_; rintro e w5 ⟨rfl, h5, hk5⟩
            have HO5 := Lib.hid (own_kept_g HO4.out hk5 hgo)
            have HQ5 := Lib.hid h5
            have HK5 := Lib.hid (HK4.out.trans hk5)
            clear h5 hk5
            go_wp2
            refine ⟨⟨j + 1, by omega, by go_num, by rw [HE2.out]; exact HO5.out, ?_, HK5.out⟩, by simp [intOf]; omega⟩
            rw [HE2.out, ← List.append_assoc]
            exact HQ5.out
          · have hjn : j = A.length := by omega
            subst hjn
            rw [List.take_length] at ho2
            rw [List.drop_length, List.take_length, List.nil_append] at hq2
            obtain ⟨ph, ch, e1, hsl2, hlt2⟩ := own_sl ho2
            subst e1
            have HS2 := Lib.hid (HS.out.kept hk2 HPG.out)
            have HSh := Lib.hid hsl2
            have HQ2 := Lib.hid hq2
            have HK2 := Lib.hid hk2
            clear ho2 hq2 hk2 hsl2 hlt2
            go_wp2_with fail
            refine (same_yes ph pa ch ca A _ HSh.out HS2.out (by omega)).mono ?_; rintro e w3 ⟨rfl, hb3⟩
            have HS3 := Lib.hid (HS2.out.below hb3)
            have HQ3 := Lib.hid (HQ2.out.below hb3)
            have HK3 := Lib.hid (HK2.out.then_below hb3)
            clear hb3
            go_wp2_with fail
            refine (all_any g A _ HQ3.out).mono ?_; rintro e w4 ⟨v4, rfl, ho4, hb4⟩
            obtain ⟨p4, c4, e4, hsl4, _⟩ := own_sl ho4
            subst e4
            have HSa := Lib.hid hsl4
            have HS4 := Lib.hid (HS3.out.below hb4)
            have HQ4 := Lib.hid (HQ3.out.below hb4)
            have HK4 := Lib.hid (HK3.out.then_below hb4)
            clear hb4 ho4 hsl4
            go_wp2_with fail
            refine (same_yes p4 pa c4 ca A _ HSa.out HS4.out (by omega)).mono ?_; rintro e w5 ⟨rfl, hb5⟩
            have HQ5 := Lib.hid (HQ4.out.below hb5)
            have HK5 := Lib.hid (HK4.out.then_below hb5)
            clear hb5
            go_wp2_with fail
            go_loopw [10] (fun i W' => ∃ j : Nat, j ≤ A.length ∧ i = .int .i64 j ∧ IsQ W' g (A.drop j) ∧ Kept g wo W') (fun i _ => A.length - (intOf i).toNat)
            case atStart => exact ⟨0, by omega, rfl, by simpa using HQ5.out, HK5.out⟩
            case round =>
              obtain ⟨j, hj, rfl, hq6, hk6⟩ := hrel
              by_cases hjA : j < A.length
              · have hjA' : (j : Int) < A.length := by omega
                obtain ⟨x, e1, e2, e3, e4⟩ := rot_step A j hjA
                rw [e1] at hq6
                rcases HS.out with h0 | ⟨b, o, e5, hc⟩
                · omega
                have hbg := HPG.out b o e5
                subst e5
                have c1 := hc j hjA
                simp only [e3] at c1
                have HQ6 := Lib.hid hq6
                have HK6 := Lib.hid hk6
                have HC1 := Lib.hid c1
                clear hq6 hk6 e1 e2 e3 e4 hc c1
                go_wp2_with fail
                refine (pop_some g x _ _ HQ6.out).mono ?_; rintro e w7 ⟨rfl, h7, hk7⟩
                have HK7 := Lib.hid (HK6.out.trans hk7)
                have HQ7 := Lib.hid h7
                have c7 := HK7.out.cell HC1.out hbg
                clear h7 hk7
                go_wp2
                refine ⟨⟨j + 1, by omega, by go_num, HQ7.out, HK7.out⟩, by simp [intOf]; omega⟩
              · have hjn : j = A.length := by omega
                subst hjn
                rw [List.drop_length] at hq6
                have HQ6 := Lib.hid hq6
                have HB6 := Lib.hid (hk6.below HB.out hg1 HB.out.size)
                clear hq6 hk6
                go_wp2_with fail
                refine (pop_none g _ HQ6.out).mono ?_; rintro e w7 ⟨rfl, hb7⟩
                have HB7 := Lib.hid (bstep HB6.out hb7)
                clear hb7
                go_wp2_with fail
                refine (awake_any _).mono ?_; rintro e w8 ⟨rfl, b8⟩
                go_wp2
                go_ret
                exact ⟨rfl, bstep HB7.out b8⟩
end Go.Proofs.Ythdmbnbamlmciaa
