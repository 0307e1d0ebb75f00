/- Helper text of this seat (LFull): contracts of functions of the given program and of its references, each told by its theorem. -/
import Derived.Test.YthdmbnbamlmciaaLPlays
namespace Go.Proofs.Ythdmbnbamlmciaa
open Go.RowKit
set_option linter.unusedVariables false
set_option linter.unusedSimpArgs false
theorem sub_le : ∀ (A C : List Int), A.Nodup → (∀ x ∈ A, x ∈ C) → A.length ≤ C.length
  | [], C, _, _ => by simp
  | a :: A, C, hn, h => by
    have h1 := h a (by simp)
    obtain ⟨ha, hA⟩ := List.nodup_cons.1 hn
    have h2 := sub_le A (C.erase a) hA fun x hx => (List.mem_erase_of_ne (fun e => ha (by rw [← e]; exact hx))).2 (h x (by simp [hx]))
    have h3 := List.length_erase_of_mem h1
    have h4 : 0 < C.length := List.length_pos_of_mem h1
    simp only [List.length_cons]
    omega
/-- behind the pushes of 1 to j -/
def Upto (A C : List Int) (j : Nat) : Prop := (∀ x ∈ A, x ∈ C) ∧ (∀ x ∈ C, x ∈ A ∨ x ≤ j) ∧ ∀ x : Int, 1 ≤ x → x ≤ j → x ∈ C
theorem Upto.zero (A : List Int) : Upto A A 0 := ⟨fun _ h => h, fun _ h => .inl h, fun x h1 h2 => by omega⟩
theorem Upto.step {A C : List Int} {j : Nat} (h : Upto A C j) (hj : j < 8) : Upto A (pushL C ((j : Int) + 1)) (j + 1) ∧ ((pushE C ((j : Int) + 1) = 5 ∧ hasB A ((j : Int) + 1) = true) ∨ (pushE C ((j : Int) + 1) = 0 ∧ hasB A ((j : Int) + 1) = false)) := by
  obtain ⟨h1, h2, h3⟩ := h
  have hn : ¬ ((j : Int) + 1 < 1 ∨ 8 < (j : Int) + 1) := by omega
  by_cases hm : ((j : Int) + 1) ∈ C
  · have he : pushE C ((j : Int) + 1) = 5 := by simp [pushE, hn, hm]
    have hl : pushL C ((j : Int) + 1) = C := by simp [pushL, he]
    have hA : ((j : Int) + 1) ∈ A := by
      rcases h2 _ hm with h | h
      · exact h
      · omega
    rw [hl]
    refine ⟨⟨h1, fun x hx => ?_, fun x a b => ?_⟩, .inl ⟨he, by simp [hasB, hA]⟩⟩
    · rcases h2 x hx with h | h
      · exact .inl h
      · right; omega
    · by_cases e : x = (j : Int) + 1
      · rw [e]; exact hm
      · exact h3 x a (by omega)
  · have he : pushE C ((j : Int) + 1) = 0 := by simp [pushE, hn, hm]
    have hl : pushL C ((j : Int) + 1) = C ++ [(j : Int) + 1] := by simp [pushL, he]
    have hA : ((j : Int) + 1) ∉ A := fun h => hm (h1 _ h)
    rw [hl]
    refine ⟨⟨fun x hx => by simp [h1 x hx], fun x hx => ?_, fun x a b => ?_⟩, .inr ⟨he, by simp [hasB, hA]⟩⟩
    · rcases List.mem_append.1 hx with hx | hx
      · rcases h2 x hx with h | h
        · exact .inl h
        · right; omega
      · simp at hx
        right
        omega
    · by_cases e : x = (j : Int) + 1
      · simp [e]
      · simp [h3 x a (by omega)]
theorem Upto.all {A C : List Int} (h : Upto A C 8) (hg : Good C) : C.length = 8 ∧ ∀ j : Nat, j < 8 → hasB C ((j : Int) + 1) = true ∧ pushE C ((j : Int) + 1) = 5 ∧ pushL C ((j : Int) + 1) = C := by
  obtain ⟨h1, h2, h3⟩ := h
  refine ⟨?_, fun j hj => ?_⟩
  · have k1 := hg.le
    have k2 := sub_le [1, 2, 3, 4, 5, 6, 7, 8] C (by decide) (fun x hx => h3 x (by simp at hx; omega) (by simp at hx; omega))
    simp at k2
    omega
  · have hm := h3 ((j : Int) + 1) (by omega) (by omega)
    have hn : ¬ ((j : Int) + 1 < 1 ∨ 8 < (j : Int) + 1) := by omega
    have he : pushE C ((j : Int) + 1) = 5 := by simp [pushE, hn, hm]
    exact ⟨by simp [hasB, hm], he, by simp [pushL, he]⟩
set_option maxHeartbeats 4000000 in
theorem QueueFull_any (p : Option Addr) (N cap : Nat) (D T : Nat → Int) (w : World) (ho : Ops w p N D T) :
    Calls Try.prog 7 #[.slice p N cap] w fun e w' => e = .returned (.bool true) ∧ Below w.heap.size w w' := by
  by_cases hL : 100 < N
  · have hL' : (100 : Int) < N := by omega
    go_enter Try.func7, Try.ntmps7
    go_wp2_with fail
    refine (awake_any _).mono ?_; rintro e w3 ⟨rfl, b3⟩
    go_wp2
    go_ret
    exact ⟨rfl, b3⟩
  · have hL' : ¬ (100 : Int) < N := by omega
    go_enter Try.func7, Try.ntmps7
    go_wp2_with fail
    refine (new_q _).mono ?_; rintro e w1 ⟨g, rfl, h1, hg1, hb1⟩
    have H1 := Lib.hid h1
    have HB1 := Lib.hid hb1
    clear h1 hb1
    go_wp2_with fail
    go_loopw [4] (fun i W' => ∃ (k : Nat) (L : List Int), k ≤ N ∧ i = .int .i64 k ∧ IsQ W' g L ∧ Below w.heap.size w W') (fun i _ => N - (intOf i).toNat)
    case atStart => exact ⟨0, [], by omega, rfl, H1.out, HB1.out⟩
    case round =>
      obtain ⟨k, L, hk, rfl, hq, hb⟩ := hrel
      have HQ := Lib.hid hq
      have HB := Lib.hid hb
      clear hq hb
      by_cases hkL : k < N
      · have hkL' : (k : Int) < N := by omega
        have hk0 : (0 : Int) ≤ (k : Int) := by omega
        rcases ho with h0 | ⟨b, o, rfl, hc⟩
        · omega
        have c0 := keepc HB.out (hc k hkL).1
        have c1 := keepc HB.out (hc k hkL).2
        have HC := Lib.hid hc
        clear hc
        have hgw := HQ.out.lt
        go_wp2_with fail
        go_region_with (first
          | (go_at_call 14
             refine (all_any g L _ (by exact HQ.out)).mono ?_
             rintro e w2 ⟨v2, rfl, ho2, hb2'⟩
             have hb2 : Below wr.heap.size wr w2 := ⟨hb2'.os, hb2'.tape, hb2'.output, hb2'.size, hb2'.block⟩
             have hq2 : IsQ w2 g L := HQ.out.b hb2 hgw
             have hl2 : IsL w2 g v2 L := own_isl ho2 hgw
             have d0 := keepc hb2 c0
             have d1 := keepc hb2 c1)
          | (go_at_call 16
             refine (play_any g v2 L (D k) (T k) _ (by exact hq2) (by exact hl2)).mono ?_
             rintro e w3 ⟨v3, L3, rfl, hq3, hl3, hk3⟩))
        all_goals
          have HQ3 := Lib.hid hq3
          have HB3 := Lib.hid (hk3.below (bstep HB.out hb2) hg1 (bstep HB.out hb2).size)
          clear hq3 hl3 hk3 hq2 hl2 d0 d1 ho2 hb2 hb2' c0 c1
          go_wp2
          exact ⟨⟨k + 1, L3, by omega, by go_num, HQ3.out, HB3.out⟩, by simp [intOf]; omega⟩
      · have hkL' : ¬ (k : Int) < N := by omega
        obtain ⟨wo, rfl⟩ : ∃ wo : World, wo = wr := ⟨_, rfl⟩
        have hgw := HQ.out.lt
        go_wp2_with fail
        refine (all_any g L _ HQ.out).mono ?_; rintro e w2 ⟨v2, rfl, ho2, hb2⟩
        obtain ⟨pa, ca, e2, hs2, hlt2⟩ := own_sl ho2
        subst e2
        have hpg : ∀ b o, pa = some ⟨b, o, none⟩ → b ≠ g := fun b o e => by have := hlt2 b o e; omega
        have HPG := Lib.hid hpg
        have HS2 := Lib.hid hs2
        have HQ2 := Lib.hid (HQ.out.below hb2)
        have HB2 := Lib.hid (bstep HB.out hb2)
        have hA8 : L.length ≤ 8 := by obtain ⟨_, _, _, _, _, _, hg⟩ := HQ.out; exact hg.le
        clear ho2 hs2 hlt2 hpg hb2
        go_wp2_with fail
        go_loopw [6] (fun i W' => ∃ (j : Nat) (C : List Int), j ≤ 8 ∧ i = .int .i64 ((j : Int) + 1) ∧ IsQ W' g C ∧ Upto L C j ∧ Kept g w2 W') (fun i _ => 9 - (intOf i).toNat)
        case atStart => exact ⟨0, L, by omega, rfl, HQ2.out, .zero L, Kept.refl _ _⟩
        case round =>
          obtain ⟨j, C, hj, rfl, hq3, hu3, hk3⟩ := hrel
          have HQ3 := Lib.hid hq3
          have HU3 := Lib.hid hu3
          have HK3 := Lib.hid hk3
          clear hq3 hu3 hk3
          by_cases hj8 : j < 8
          · have hj8' : (j : Int) + 1 ≤ 8 := by omega
            have hw1 : IntKind.i64.wrap ((j : Int) + 1 + 1) = (j : Int) + 1 + 1 := IntWalk.i64_in _ (by omega)
            obtain ⟨hu, hcase⟩ := HU3.out.step hj8
            have HU := Lib.hid hu
            have hpu := fun (W : World) (h : IsQ W g C) => push_any g C ((j : Int) + 1) W h
            have HPU := Lib.hid hpu
            clear hu hpu
            rcases hcase with ⟨he, hh⟩ | ⟨he, hh⟩
            all_goals
              have HE := Lib.hid he
              have HH := Lib.hid hh
              clear he hh
              go_wp2_with fail
              refine (HPU.out _ HQ3.out).mono ?_; rintro e w4 ⟨rfl, hq4, hk4⟩
              rw [HE.out]
              have HQ4 := Lib.hid hq4
              have HK4 := Lib.hid (HK3.out.trans hk4)
              have HS4 := Lib.hid (HS2.out.kept HK4.out HPG.out)
              clear hq4 hk4
              go_wp2_with fail
              refine (has_any pa ca L _ _ HS4.out (by omega)).mono ?_; rintro e w5 ⟨rfl, rfl⟩
              rw [HH.out]
              go_wp2
              refine ⟨⟨j + 1, _, by omega, by go_num, HQ4.out, HU.out, HK4.out⟩, by simp [intOf]; omega⟩
          · have hj88 : j = 8 := by omega
            subst hj88
            have hgC : Good C := by obtain ⟨_, _, _, _, _, _, hg⟩ := HQ3.out; exact hg
            obtain ⟨hC8, hall⟩ := HU3.out.all hgC
            have HALL := Lib.hid hall
            have hgr := HQ3.out.lt
            clear hall hgC
            go_wp2_with fail
            refine (all_any g C _ HQ3.out).mono ?_; rintro e w6 ⟨v6, rfl, ho6, hb6⟩
            obtain ⟨p6, c6, e6, hs6, hlt6⟩ := own_sl ho6
            subst e6
            have hpg : ∀ b o, p6 = some ⟨b, o, none⟩ → b ≠ g := fun b o e => by have := hlt6 b o e; omega
            have HP6 := Lib.hid hpg
            have HS6 := Lib.hid hs6
            have HQ6 := Lib.hid (HQ3.out.below hb6)
            have HB6 := Lib.hid (bstep (HK3.out.below HB2.out hg1 HB2.out.size) hb6)
            have HC8 := Lib.hid hC8
            clear ho6 hs6 hlt6 hpg hb6 hC8
            go_wp2_with fail
            go_loopw [9] (fun i W' => ∃ j : Nat, j ≤ 8 ∧ i = .int .i64 ((j : Int) + 1) ∧ IsQ W' g C ∧ Kept g w6 W') (fun i _ => 9 - (intOf i).toNat)
            case atStart => exact ⟨0, by omega, rfl, HQ6.out, Kept.refl _ _⟩
            case round =>
              obtain ⟨j, hj', rfl, hq7, hk7⟩ := hrel
              have HQ7 := Lib.hid hq7
              have HK7 := Lib.hid hk7
              clear hq7 hk7
              by_cases hj8 : j < 8
              · have hj8' : (j : Int) + 1 ≤ 8 := by omega
                have hw1 : IntKind.i64.wrap ((j : Int) + 1 + 1) = (j : Int) + 1 + 1 := IntWalk.i64_in _ (by omega)
                obtain ⟨ha1, ha2, ha3⟩ := HALL.out j hj8
                have hpu := fun (W : World) (h : IsQ W g C) => push_any g C ((j : Int) + 1) W h
                rw [ha2, ha3] at hpu
                have HPU := Lib.hid hpu
                have HH := Lib.hid ha1
                have HS7 := Lib.hid (HS6.out.kept HK7.out HP6.out)
                clear ha1 ha2 ha3 hpu
                go_wp2_with fail
                refine (has_any p6 c6 C _ _ HS7.out (by have := HC8.out; omega)).mono ?_; rintro e w8 ⟨rfl, rfl⟩
                rw [HH.out]
                go_wp2_with fail
                refine (HPU.out _ HQ7.out).mono ?_; rintro e w9 ⟨rfl, hq9, hk9⟩
                have HQ9 := Lib.hid hq9
                have HK9 := Lib.hid (HK7.out.trans hk9)
                clear hq9 hk9
                go_wp2
                refine ⟨⟨j + 1, by omega, by go_num, HQ9.out, HK9.out⟩, by simp [intOf]; omega⟩
              · have hj88 : j = 8 := by omega
                subst hj88
                have HB7 := Lib.hid (HK7.out.below HB6.out hg1 HB6.out.size)
                have hc8 := HC8.out
                go_wp2_with fail
                refine (awake_any _).mono ?_; rintro e w8 ⟨rfl, b8⟩
                go_wp2
                go_ret
                exact ⟨rfl, bstep HB7.out b8⟩
end Go.Proofs.Ythdmbnbamlmciaa
