/- Helper text of this seat (LPlays): contracts of functions of the given program and of its references, each told by its theorem. -/
import Derived.Test.YthdmbnbamlmciaaPlay
namespace Go.Proofs.Ythdmbnbamlmciaa
open Go.RowKit
set_option linter.unusedVariables false
set_option linter.unusedSimpArgs false
/-- a script as it lies -/
def Ops (w : World) (p : Option Addr) (N : Nat) (D T : Nat → Int) : Prop := N = 0 ∨ ∃ b o, p = some ⟨b, o, none⟩ ∧ ∀ i, i < N → w.cell? ⟨b, o + i * 2, none⟩ = some (.int .i64 (D i)) ∧ w.cell? ⟨b, o + i * 2 + 1, none⟩ = some (.int .i64 (T i))
set_option maxHeartbeats 2000000 in
theorem QueuePlays_any (p : Option Addr) (N cap : Nat) (D T : Nat → Int) (w : World) (ho : Ops w p N D T) :
    Calls Try.prog 4 #[.slice p N cap] w fun e w' => e = .returned (.bool true) ∧ Below w.heap.size w w' := by
  by_cases hL : 300 < N
  · have hL' : (300 : Int) < N := by omega
    go_enter Try.func4, Try.ntmps4
    go_wp2_with fail
    refine (awake_any _).mono ?_; rintro e w3 ⟨rfl, b3⟩
    go_wp2
    go_ret
    exact ⟨rfl, b3⟩
  · have hL' : ¬ (300 : Int) < N := by omega
    go_enter Try.func4, Try.ntmps4
    go_wp2_with fail
    refine (new_q _).mono ?_; rintro e w1 ⟨g, rfl, h1, hg1, hb1⟩
    have H1 := Lib.hid h1
    have HB1 := Lib.hid hb1
    clear h1 hb1
    go_wp2_with fail
    go_loopw [4, 5] (fun v i W' => ∃ (k : Nat) (L : List Int), k ≤ N ∧ i = .int .i64 k ∧ IsQ W' g L ∧ IsL W' g v L ∧ Below w.heap.size w W') (fun _ i _ => N - (intOf i).toNat)
    case atStart => exact ⟨0, [], by omega, rfl, H1.out, .nil _ _, HB1.out⟩
    case round =>
      obtain ⟨k, L, hk, rfl, hq, hl, hb⟩ := hrel
      have HQ := Lib.hid hq
      have HL := Lib.hid hl
      have HB := Lib.hid hb
      clear hq hl hb
      by_cases hkL : k < N
      · have hkL' : (k : Int) < N := by omega
        rcases ho with h0 | ⟨b, o, rfl, hc⟩
        · omega
        have c0 := keepc HB.out (hc k hkL).1
        have c1 := keepc HB.out (hc k hkL).2
        have HC := Lib.hid hc
        clear hc
        go_wp2_with fail
        refine (play_any g u4 L (D k) (T k) _ HQ.out HL.out).mono ?_
        rintro e w2 ⟨v2, L2, rfl, hq2, hl2, hk2⟩
        have HB2 := Lib.hid (hk2.below HB.out hg1 HB.out.size)
        have hgood : Good L2 := by obtain ⟨_, _, _, _, _, _, hg⟩ := hq2; exact hg
        have hL8 := hgood.le
        obtain ⟨p2, c2, rfl, hs2, hlc2, hpc2, hpg2⟩ := hl2
        have HQ2 := Lib.hid hq2
        have HS2 := Lib.hid hs2
        have hl2 : IsL w2 g (.slice p2 L2.length c2) L2 := ⟨p2, c2, rfl, hs2, hlc2, hpc2, hpg2⟩
        have HL2 := Lib.hid hl2
        clear hq2 hk2 hgood hs2 hpc2 hpg2 hl2 c0 c1
        cases L2 with
        | nil =>
          simp only [List.length_nil] at *
          go_wp2_with fail
          refine (head_none g _ HQ2.out).mono ?_; rintro e w3 ⟨rfl, hb3⟩
          have HQ3 := Lib.hid (HQ2.out.below hb3)
          have HS3 := Lib.hid (HS2.out.below hb3)
          have HL3 := Lib.hid (HL2.out.below hb3)
          have HB3 := Lib.hid (bstep HB2.out hb3)
          clear hb3
          go_wp2_with fail
          refine (all_any g _ _ HQ3.out).mono ?_; rintro e w4 ⟨v4, rfl, ho4, hb4⟩
          obtain ⟨p4, c4, rfl, hs4, _⟩ := own_sl ho4
          simp only [List.length_nil] at *
          have HQ4 := Lib.hid (HQ3.out.below hb4)
          have HL4 := Lib.hid (HL3.out.below hb4)
          have HB4 := Lib.hid (bstep HB3.out hb4)
          have HS4 := Lib.hid (HS3.out.below hb4)
          have HA4 := Lib.hid hs4
          clear ho4 hb4 hs4
          go_wp2_with fail
          refine (same_yes p4 p2 c4 c2 [] _ HA4.out HS4.out (by simp)).mono ?_; rintro e w5 ⟨rfl, hb5⟩
          have HQ5 := Lib.hid (HQ4.out.below hb5)
          have HL5 := Lib.hid (HL4.out.below hb5)
          have HB5 := Lib.hid (bstep HB4.out hb5)
          clear hb5
          go_wp2
          exact ⟨⟨k + 1, [], by omega, by go_num, HQ5.out, HL5.out, HB5.out⟩, by simp [intOf]; omega⟩
        | cons x L2 =>
          go_wp2_with fail
          refine (head_some g x _ _ HQ2.out).mono ?_; rintro e w3 ⟨rfl, hb3⟩
          have HQ3 := Lib.hid (HQ2.out.below hb3)
          have HS3 := Lib.hid (HS2.out.below hb3)
          have HL3 := Lib.hid (HL2.out.below hb3)
          have HB3 := Lib.hid (bstep HB2.out hb3)
          clear hb3
          go_wp2_with fail
          refine (all_any g _ _ HQ3.out).mono ?_; rintro e w4 ⟨v4, rfl, ho4, hb4⟩
          obtain ⟨p4, c4, rfl, hs4, _⟩ := own_sl ho4
          have HQ4 := Lib.hid (HQ3.out.below hb4)
          have HL4 := Lib.hid (HL3.out.below hb4)
          have HB4 := Lib.hid (bstep HB3.out hb4)
          have HS4 := Lib.hid (HS3.out.below hb4)
          have HA4 := Lib.hid hs4
          clear ho4 hb4 hs4
          go_wp2_with fail
          refine (same_yes p4 p2 c4 c2 (x :: L2) _ HA4.out (by exact HS4.out) (by omega)).mono ?_; rintro e w5 ⟨rfl, hb5⟩
          have HQ5 := Lib.hid (HQ4.out.below hb5)
          have HL5 := Lib.hid (HL4.out.below hb5)
          have HS5 := Lib.hid (HS4.out.below hb5)
          have HB5 := Lib.hid (bstep HB4.out hb5)
          clear hb5
          rcases HS5.out with h0 | ⟨b5, o5, e5, hc5⟩
          · simp at h0
          have cx := hc5 0 (by simp)
          simp at cx
          subst e5
          have t1 : (0 : Int) < (L2.length : Int) + 1 := by omega
          clear hc5
          go_wp2
          refine ⟨⟨k + 1, x :: L2, by omega, by go_num, HQ5.out, ?_, HB5.out⟩, by simp [intOf]; omega⟩
          exact HL5.out
      · have hkL' : ¬ (k : Int) < N := by omega
        go_wp2_with fail
        refine (awake_any _).mono ?_; rintro e w3 ⟨rfl, b3⟩
        go_wp2
        go_ret
        exact ⟨rfl, bstep HB.out b3⟩
end Go.Proofs.Ythdmbnbamlmciaa
