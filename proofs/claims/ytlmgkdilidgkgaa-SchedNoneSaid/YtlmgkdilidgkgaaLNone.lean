/- The law SchedNone. -/
import Derived.Test.YtlmgkdilidgkgaaTwo
namespace Go.Proofs.Ytlmgkdilidgkgaa
open Go.RowKit
set_option linter.unusedVariables false
set_option linter.unusedSimpArgs false
/-- a schedule that is not there, or that nobody made -/
def NoS (p : Option Addr) (B : Nat) (w : World) : Prop := p = none ∨ (p = some ⟨B, 0, none⟩ ∧ w.cell? ⟨B, 0, none⟩ = some (.slice none 0 0))
theorem NoS.below {p : Option Addr} {B : Nat} {w w' : World} (h : NoS p B w) (hb : Below w.heap.size w w') : NoS p B w' := by
  rcases h with h | ⟨h1, h2⟩
  · exact .inl h
  · exact .inr ⟨h1, keepc hb h2⟩
theorem snone_yes (p : Option Addr) (B : Nat) (w : World) (h : NoS p B w) : Calls Try.prog 25 #[.pointer p] w fun e w' => e = .returned (.bool true) ∧ w' = w := by
  rcases h with rfl | ⟨rfl, h⟩
  · exact snone_nil w
  · exact snone_zero B 0 w h
theorem part_no (p : Option Addr) (B : Nat) (w : World) (h : NoS p B w) : Calls Try.prog 12 #[.pointer p] w fun e w' => e = .returned (.int .i64 0) ∧ w' = w := by
  go_enter Try.func12, Try.ntmps12
  go_wp2_with fail
  refine (snone_yes p B _ h).mono ?_; rintro e w1 ⟨rfl, rfl⟩
  go_wp2
  go_ret
  exact ⟨rfl, rfl⟩
theorem window_no (p : Option Addr) (B : Nat) (w : World) (h : NoS p B w) : Calls Try.prog 13 #[.pointer p] w fun e w' => e = .returned (.int .i64 0) ∧ w' = w := by
  go_enter Try.func13, Try.ntmps13
  go_wp2_with fail
  refine (snone_yes p B _ h).mono ?_; rintro e w1 ⟨rfl, rfl⟩
  go_wp2
  go_ret
  exact ⟨rfl, rfl⟩
theorem left_no (p : Option Addr) (B : Nat) (w : World) (h : NoS p B w) : Calls Try.prog 15 #[.pointer p] w fun e w' => e = .returned (.int .i64 0) ∧ w' = w := by
  go_enter Try.func15, Try.ntmps15
  go_wp2_with fail
  refine (snone_yes p B _ h).mono ?_; rintro e w1 ⟨rfl, rfl⟩
  go_wp2
  go_ret
  exact ⟨rfl, rfl⟩
theorem ticks_no (p : Option Addr) (B : Nat) (w : World) (h : NoS p B w) : Calls Try.prog 14 #[.pointer p] w fun e w' => e = .returned (.int .u64 0) ∧ w' = w := by
  go_enter Try.func14, Try.ntmps14
  go_wp2_with fail
  refine (snone_yes p B _ h).mono ?_; rintro e w1 ⟨rfl, rfl⟩
  go_wp2
  go_ret
  exact ⟨rfl, rfl⟩
theorem tick_no (p : Option Addr) (B : Nat) (w : World) (h : NoS p B w) : Calls Try.prog 17 #[.pointer p] w fun e w' => e = .returned (.tuple #[.int .i64 0, .int .i64 0]) ∧ Below w.heap.size w w' := by
  have H := Lib.hid h
  clear h
  go_enter Try.func17, Try.ntmps17
  go_wp2_with fail
  refine (snone_yes p B _ (by exact H.out.below ((Below.refl _ _).alloc (Nat.le_refl _) _))).mono ?_; rintro e w1 ⟨rfl, rfl⟩
  go_wp2
  go_ret2
  exact ⟨rfl, (Below.refl _ _).alloc (Nat.le_refl _) _⟩
set_option maxHeartbeats 4000000 in
theorem SchedNone_any (n : Int) (w : World) :
    Calls Try.prog 4 #[.int .i64 n] w fun e w' => e = .returned (.bool true) ∧ Below w.heap.size w w' := by
  go_enter Try.func4, Try.ntmps4
  go_wp2_with fail
  refine wp_abs (fun V => V.cell? ⟨w.heap.size, 0, none⟩ = some (.slice none 0 0) ∧ Below w.heap.size w V) ?_ ?_
  · exact ⟨(bk_cell (bk_new w _) 0).trans rfl, (Below.refl _ _).alloc (Nat.le_refl _) _⟩
  rintro V ⟨hv1, hv2⟩
  have HV1 := Lib.hid hv1
  have HV2 := Lib.hid hv2
  clear hv1 hv2
  go_loopw [3, 5] (fun sv iv W' => ∃ i : Nat, i ≤ 2 ∧ iv = .int .i64 i ∧ (∃ p, sv = .pointer p ∧ ((p = none ∧ i = 0) ∨ (p = none ∧ i = 1) ∨ (p = some ⟨w.heap.size, 0, none⟩ ∧ i = 2))) ∧ Below V.heap.size V W') (fun _ iv _ => 2 - (intOf iv).toNat)
  case atStart => exact ⟨0, by omega, rfl, ⟨none, rfl, .inl ⟨rfl, rfl⟩⟩, Below.refl _ _⟩
  case round =>
    obtain ⟨i, hi, rfl, ⟨p, rfl, hp⟩, hb⟩ := hrel
    have HB := Lib.hid hb
    clear hb
    rcases hp with ⟨rfl, rfl⟩ | ⟨rfl, rfl⟩ | ⟨rfl, rfl⟩
    · have hN := fun (W : World) => (show NoS none w.heap.size W from .inl rfl)
      have HN := Lib.hid hN
      clear hN
      go_wp2_with fail
      refine (tick_no none w.heap.size _ (HN.out _)).mono ?_; rintro e w2 ⟨rfl, hb2⟩
      have HB2 := Lib.hid (bstep HB.out hb2)
      clear hb2
      go_wp2_with fail
      refine (part_no none w.heap.size _ (HN.out _)).mono ?_; rintro e w3 ⟨rfl, rfl⟩
      go_wp2_with fail
      refine (window_no none w.heap.size _ (HN.out _)).mono ?_; rintro e w4 ⟨rfl, rfl⟩
      go_wp2_with fail
      refine (left_no none w.heap.size _ (HN.out _)).mono ?_; rintro e w5 ⟨rfl, rfl⟩
      go_wp2_with fail
      refine (ticks_no none w.heap.size _ (HN.out _)).mono ?_; rintro e w6 ⟨rfl, rfl⟩
      go_wp2
      exact ⟨⟨1, by omega, rfl, ⟨none, rfl, .inr (.inl ⟨rfl, rfl⟩)⟩, HB2.out⟩, by simp [intOf]⟩
    · have hN := fun (W : World) (h : Below V.heap.size V W) => (show NoS (some ⟨w.heap.size, 0, none⟩) w.heap.size W from .inr ⟨rfl, keepc h HV1.out⟩)
      have HN := Lib.hid hN
      clear hN
      go_wp2_with fail
      refine (tick_no (some ⟨w.heap.size, 0, none⟩) w.heap.size _ (HN.out _ HB.out)).mono ?_; rintro e w2 ⟨rfl, hb2⟩
      have HB2 := Lib.hid (bstep HB.out hb2)
      clear hb2
      go_wp2_with fail
      refine (part_no (some ⟨w.heap.size, 0, none⟩) w.heap.size _ (HN.out _ HB2.out)).mono ?_; rintro e w3 ⟨rfl, rfl⟩
      go_wp2_with fail
      refine (window_no (some ⟨w.heap.size, 0, none⟩) w.heap.size _ (HN.out _ HB2.out)).mono ?_; rintro e w4 ⟨rfl, rfl⟩
      go_wp2_with fail
      refine (left_no (some ⟨w.heap.size, 0, none⟩) w.heap.size _ (HN.out _ HB2.out)).mono ?_; rintro e w5 ⟨rfl, rfl⟩
      go_wp2_with fail
      refine (ticks_no (some ⟨w.heap.size, 0, none⟩) w.heap.size _ (HN.out _ HB2.out)).mono ?_; rintro e w6 ⟨rfl, rfl⟩
      go_wp2
      exact ⟨⟨2, by omega, rfl, ⟨_, rfl, .inr (.inr ⟨rfl, rfl⟩)⟩, HB2.out⟩, by simp [intOf]⟩
    · have hN := fun (W : World) (h : Below V.heap.size V W) => (show NoS (some ⟨w.heap.size, 0, none⟩) w.heap.size W from .inr ⟨rfl, keepc h HV1.out⟩)
      have HN := Lib.hid hN
      clear hN
      obtain ⟨wo, rfl⟩ : ∃ wo : World, wo = wr := ⟨_, rfl⟩
      go_wp2_with fail
      go_loopw [8] (fun iv W' => ∃ i : Nat, iv = .int .i64 i ∧ i ≤ 10 ∧ Below V.heap.size V W') (fun iv _ => 10 - (intOf iv).toNat)
      case atStart => exact ⟨0, rfl, by omega, HB.out⟩
      case round =>
        obtain ⟨i, rfl, hi10, hb⟩ := hrel
        have HBj := Lib.hid hb
        clear hb
        by_cases hin : (i : Int) < n
        · have hd1 : decide ((i : Int) < n) = true := by simpa using hin
          by_cases hi9 : i < 10
          · have hi9' : (i : Int) < 10 := by omega
            go_wp2_with fail
            refine (tick_no (some ⟨w.heap.size, 0, none⟩) w.heap.size _ (HN.out _ HBj.out)).mono ?_; rintro e w2 ⟨rfl, hb2⟩
            have HB2 := Lib.hid (bstep HBj.out hb2)
            clear hb2
            go_wp2
            refine ⟨?_, by simp [intOf]; omega⟩
            first
              | exact ⟨i + 1, by go_num, by omega, HB2.out⟩
              | (repeat apply Exists.intro)
                exact ⟨⟨i + 1, by go_num, by omega, HB2.out⟩, rfl⟩
          · have hi9' : ¬ (i : Int) < 10 := by omega
            go_wp2_with fail
            refine (ticks_no (some ⟨w.heap.size, 0, none⟩) w.heap.size _ (HN.out _ HBj.out)).mono ?_; rintro e w6 ⟨rfl, rfl⟩
            go_wp2_with fail
            refine (awake_any _).mono ?_; rintro e w8 ⟨rfl, hb8⟩
            go_wp2
            go_ret
            exact ⟨rfl, bstep (bstep HV2.out HBj.out) hb8⟩
        · have hd1 : decide ((i : Int) < n) = false := by simpa using hin
          go_wp2_with fail
          refine (ticks_no (some ⟨w.heap.size, 0, none⟩) w.heap.size _ (HN.out _ HBj.out)).mono ?_; rintro e w6 ⟨rfl, rfl⟩
          go_wp2_with fail
          refine (awake_any _).mono ?_; rintro e w8 ⟨rfl, hb8⟩
          go_wp2
          go_ret
          exact ⟨rfl, bstep (bstep HV2.out HBj.out) hb8⟩
end Go.Proofs.Ytlmgkdilidgkgaa
