/- Helper text of this seat (LOne): contracts of functions of the given program and of its references, each told by its theorem. -/
import Derived.Test.YtbgpimdigkiflaaLFull
import Derived.Test.YtbgpimdigkiflaaLList
import Derived.Test.YtbgpimdigkiflaaSameW
namespace Go.Proofs.Ytbgpimdigkiflaa
open Go.RowKit
set_option linter.unusedVariables false
set_option linter.unusedSimpArgs false
theorem one_bad (c d times : Int) (p : Option Addr) (L cap : Nat) (w : World) (h : (c < 1 ∨ 8 < c ∨ d < 1 ∨ 8 < d) ∨ L < 1 ∨ d < L ∨ 100 < times) :
    Calls Try.prog 6 #[.int .i64 c, .int .i64 d, .int .i64 times, .slice p L cap] w fun e w' => e = .returned (.bool true) ∧ Below w.heap.size w w' := by
  by_cases hbad : c < 1 ∨ 8 < c ∨ d < 1 ∨ 8 < d
  · go_enter Try.func6, Try.ntmps6
    go_wp2_with fail
    refine (new_bad c d _ hbad).mono ?_; rintro e w1 ⟨rfl, rfl⟩
    go_wp2_with fail
    refine (awake_any _).mono ?_; rintro e w3 ⟨rfl, b3⟩
    go_wp2
    go_ret
    exact ⟨rfl, b3⟩
  · obtain ⟨c, rfl⟩ : ∃ q : Nat, c = q := ⟨c.toNat, by omega⟩
    obtain ⟨d, rfl⟩ : ∃ q : Nat, d = q := ⟨d.toNat, by omega⟩
    have h' : (L : Int) < 1 ∨ (¬ (L : Int) < 1 ∧ (d : Int) < L) ∨ (¬ (L : Int) < 1 ∧ ¬ (d : Int) < L ∧ 100 < times) := by omega
    rcases h' with k1 | ⟨k1, k2⟩ | ⟨k1, k2, k3⟩
    all_goals
      go_enter Try.func6, Try.ntmps6
      go_wp2_with fail
      refine (new_rs c d _ (by omega) (by omega) (by omega) (by omega)).mono ?_
      rintro e w1 ⟨R, rfl, hr1, hR1, hb1⟩
      clear hr1
      go_wp2_with fail
      refine (awake_any _).mono ?_; rintro e w3 ⟨rfl, b3⟩
      go_wp2
      go_ret
      exact ⟨rfl, bstep hb1 b3⟩
set_option maxHeartbeats 4000000 in
theorem one_good (c d : Nat) (times : Int) (p : Option Addr) (cap : Nat) (z : Int) (Z : List Int) (w : World) (hc1 : 1 ≤ c) (hc8 : c ≤ 8) (hd1 : 1 ≤ d) (hd8 : d ≤ 8) (hL : (z :: Z).length ≤ d) (ht : times ≤ 100)
    (hs : Sl w .u32 p (z :: Z).length (fun i => (z :: Z).getD i 0)) (hcap : (z :: Z).length ≤ cap) (hW : ∀ x ∈ Z, 0 ≤ x ∧ x < 4294967296) :
    Calls Try.prog 6 #[.int .i64 c, .int .i64 d, .int .i64 times, .slice p (z :: Z).length cap] w fun e w' => e = .returned (.bool true) ∧ Below w.heap.size w w' := by
  have hmf : ∀ (fn : Fn) (first cap : Array Value) (w : World), (Instr.makeFunc fn first cap).run Try.prog w = .ok (.func fn first cap) w := fun _ _ _ _ => rfl
  have hz := zero_kept
  have hN := cap_le hc8 hd8
  rcases hs with h0 | ⟨b, o, rfl, hc⟩
  · simp at h0
  have hrest := rest_sl hc
  have hbl : b < w.heap.size := block_lt_of_cell (hc 0 (by simp))
  simp only [List.length_cons] at hL hcap ⊢
  have HRest := Lib.hid hrest
  have HW := Lib.hid hW
  clear hc hrest hW
  have k1 : ¬ (Z.length : Int) + 1 < 1 := by omega
  have k2 : ¬ (d : Int) < (Z.length : Int) + 1 := by omega
  have k3 : ¬ (100 : Int) < times := by omega
  have k4 : (1 : Int) ≤ (Z.length : Int) + 1 := by omega
  have k5 : (Z.length : Int) + 1 ≤ cap := by omega
  go_enter Try.func6, Try.ntmps6
  go_wp2_with fail
  refine (new_rs c d _ hc1 hc8 hd1 hd8).mono ?_
  rintro e w1 ⟨R, rfl, hr1, hR1, hb1⟩
  have hRl := bk_lt hr1
  have hne : w1.heap.size ≠ R := by omega
  have kp := keeps R w1.heap.size hne
  have HR2 := Lib.hid (hr1.alloc (.cells (kc (fun _ => 0) false) 37))
  have HK2 := Lib.hid (ks_new w1)
  have HB2 := Lib.hid (hb1.alloc hb1.size (.cells (kc (fun _ => 0) false) 37))
  have hz2 := hb1.size
  clear hr1 hb1
  go_wp2_with fail
  go_loopw [12] (fun i W' => ∃ (j a : Nat) (f : Nat → Int), (j : Int) ≤ 100 ∧ i = .int .i64 j ∧ IsRing W' R c d a 0 ∧ KS w1.heap.size f W' ∧ a < c ∧ (∀ q, c * (d + 1) ≤ q → q < 72 → f q = 0) ∧ Below w.heap.size w W') (fun i _ => 100 - (intOf i).toNat)
  case atStart => exact ⟨0, 0, fun _ => 0, by omega, rfl, HR2.out, HK2.out, by omega, fun _ _ _ => rfl, HB2.out⟩
  case round =>
    obtain ⟨j, a, f, hj, rfl, hr, hk, ha, hf, hb⟩ := hrel
    have hRw := bk_lt hr
    have hKw := bk_lt hk.1
    have HR := Lib.hid hr
    have HK := Lib.hid hk
    have HF := Lib.hid hf
    have HB := Lib.hid hb
    have hzw := hb.size
    clear hr hk hf hb
    by_cases hjt : (j : Int) < times
    · have s1 : IntKind.u32.wrap (j : Int) = j := IntWalk.u32_in _ (by omega)
      have hs1 : Sl (wr.alloc (.cells #[.int .u32 j] 34)) .u32 (some ⟨b, o + 1, none⟩) Z.length (fun i => Z.getD i 0) := (HRest.out.below HB.out).below (alloc_b _ _)
      have HS1 := Lib.hid hs1
      have hwf : ∀ x ∈ Z, (Lit.int .u32 x).wf = true := fun x hx => wf_u32 (HW.out x hx).1 (HW.out x hx).2
      have HWF := Lib.hid hwf
      clear hs1 hwf
      have hwj : (Lit.int .u32 (j : Int)).wf = true := wf_u32 (by omega) (by omega)
      have hcase : (cap = 1 ∧ Z.length = 0) ∨ ¬ cap = 1 := by omega
      have hxw : ∀ x ∈ (j : Int) :: Z, 0 ≤ x ∧ x < 4294967296 := fun x hx => by
        rcases List.mem_cons.1 hx with rfl | hx
        · omega
        · exact HW.out x hx
      have HXW := Lib.hid hxw
      clear hxw
      rcases hcase with ⟨hcp, hZ0⟩ | hcp
      all_goals
        first
          | (subst hcp
             have HZ0 := Lib.hid hZ0
             clear hZ0
             go_wp2_with (at_builtin; refine appN rfl _ _ _ rfl ieW _ [(j : Int)] [] (by rfl) (own_one (Nat.le_refl _) hwj) (some ⟨b, o, none⟩) 0 (by rfl) (fun e => by simp at e) (.inl rfl) (fun z hz => by simp at hz) (by simp) (by simp) ?_; intro v' w2 o2 hb2 hg2)
             have o2' : w2.ownsInts wr.heap.size 34 .u32 v' ((j : Int) :: Z) := by rw [List.length_eq_zero_iff.1 HZ0.out]; simpa using o2)
          | (go_wp2_with (at_builtin; refine appN rfl _ _ _ rfl ieW _ [(j : Int)] Z (by rfl) (own_one (Nat.le_refl _) hwj) (some ⟨b, o + 1, none⟩) (cap - 1) (by rfl) (fun e => by simp at e) HS1.out HWF.out (by simp; omega) (by simp) ?_; intro v' w2 o2 hb2 hg2)
             have o2' : w2.ownsInts wr.heap.size 34 .u32 v' ((j : Int) :: Z) := by simpa using o2)
        have hx1 : 1 ≤ ((j : Int) :: Z).length := by simp
        have hxd : ((j : Int) :: Z).length ≤ d := by simpa using hL
        generalize (j : Int) :: Z = xs at *
        have hb02 : Below wr.heap.size wr w2 := (alloc_b _ _).trans hb2
        obtain ⟨p2, c2, rfl, hsl2, hlt2⟩ := own_sl o2'
        rcases hsl2 with h0 | ⟨b2, q2, rfl, hc2⟩
        · omega
        have hb2B := hlt2 _ _ rfl
        have HSm := Lib.hid (show Sl w2 .u32 (some ⟨b2, q2, none⟩) xs.length (fun i => xs.getD i 0) from .inr ⟨b2, q2, rfl, hc2⟩)
        have HC2 := Lib.hid hc2
        have HR3 := Lib.hid (HR.out.below hb02)
        have HK3 := Lib.hid (HK.out.below hb02)
        have HB3 := Lib.hid (bstep HB.out hb02)
        have hzw2 := hb02.size
        clear o2 o2' hb2 hg2 hb02 hlt2 hc2
        refine (send_ok kp c d a 0 xs.length c2 b2 q2 f (fun i => xs.getD i 0) _ hc1 hc8 hd8 ha (by omega) hN (by omega) hx1 hxd HR3.out HK3.out (by omega) (by omega) HC2.out (fun i hi => HXW.out _ (getD_mem hi))).mono ?_
        rintro e w4 ⟨rfl, hr4, hk4, hkk4⟩
        have hli := (Lies.nil f c d a).send (xs := xs) (by simp; omega) hx1 hxd
        have hhd := hli.head
        simp only [List.length_nil] at hhd
        have hf4 : ∀ q, c * (d + 1) ≤ q → q < 72 → lay f (plc c d a 0) (fun i => xs.getD i 0) xs.length xs.length q = 0 := fun q q1 q2 => by
          have := plc_le (c := c) (d := d) (a := a) (k := 0) hc1
          rw [lay_old (by omega)]
          exact HF.out q q1 q2
        generalize lay f (plc c d a 0) (fun i => xs.getD i 0) xs.length xs.length = f4 at *
        have HS4 := Lib.hid (show Sl w4 .u32 (some ⟨b2, q2, none⟩) xs.length (fun i => xs.getD i 0) from .inr ⟨b2, q2, rfl, fun i hi => hkk4.cell (HC2.out i hi) (by omega) (by omega)⟩)
        have HR4 := Lib.hid hr4
        have HK4 := Lib.hid hk4
        have HF4 := Lib.hid hf4
        have HHD := Lib.hid hhd
        have HB4 := Lib.hid (hkk4.below HB3.out hR1 (by omega) HB3.out.size)
        have hzw4 := hkk4.size
        clear hr4 hk4 hkk4 hli hhd hf4
        go_wp2_with fail
        refine (next_some kp c d a 1 f4 _ hc1 hc8 hd8 ha (by omega) hN (by exact HR4.out) HK4.out).mono ?_
        rintro e w5 ⟨rfl, hb5⟩
        rw [HHD.out.1]
        have HS5 := Lib.hid (HS4.out.below hb5)
        have HR5 := Lib.hid (HR4.out.below hb5)
        have HK5 := Lib.hid (HK4.out.below hb5)
        have HB5 := Lib.hid (bstep HB4.out hb5)
        have hzw5 := hb5.size
        clear hb5
        go_wp2_with fail
        refine (recv_some kp c d a 1 f4 _ hc1 hc8 hd1 hd8 ha (by omega) (by omega) hN (by omega) (by exact HR5.out) HK5.out).mono ?_
        rintro e w6 ⟨v6, rfl, ho6, hr6, hk6⟩
        rw [HHD.out.1, HHD.out.2] at ho6
        obtain ⟨p6, c6, rfl, hsl6, _⟩ := own_sl ho6
        have HS6 := Lib.hid (show Sl w6 .u32 (some ⟨b2, q2, none⟩) xs.length (fun i => xs.getD i 0) from by
          rcases HS5.out with h0 | ⟨b9, o9, e9, h9⟩
          · exact .inl h0
          · simp only [Option.some.injEq, Addr.mk.injEq] at e9
            obtain ⟨rfl, rfl, _⟩ := e9
            exact .inr ⟨_, _, rfl, fun i hi => hk6.cell (h9 i hi) (by omega)⟩)
        have HG6 := Lib.hid hsl6
        have HR6 := Lib.hid hr6
        have HK6 := Lib.hid (kp.keep HK5.out hk6)
        have HB6 := Lib.hid (hk6.below HB5.out hR1 HB5.out.size)
        clear ho6 hr6 hk6 hsl6
        go_wp2_with fail
        refine (same_yes p6 (some ⟨b2, q2, none⟩) c6 c2 xs _ HG6.out HS6.out (by omega)).mono ?_
        rintro e w7 ⟨rfl, hb7⟩
        have HR7 := Lib.hid (HR6.out.below hb7)
        have HK7 := Lib.hid (HK6.out.below hb7)
        have HB7 := Lib.hid (bstep HB6.out hb7)
        clear hb7
        go_wp2_with fail
        refine (len_any R c d _ 0 _ (by exact HR7.out)).mono ?_; rintro e w8 ⟨rfl, rfl⟩
        go_wp2
        exact ⟨⟨j + 1, _, f4, by omega, by go_num, HR7.out, HK7.out, Nat.mod_lt _ (by omega), HF4.out, HB7.out⟩, by simp [intOf]; omega⟩
    · go_wp2_with fail
      refine (words_any R c d a 0 _ (by exact HR.out) hc1 hc8 hd8).mono ?_; rintro e w3 ⟨rfl, hb3⟩
      have HK3 := Lib.hid (HK.out.below hb3)
      have HB3 := Lib.hid (bstep HB.out hb3)
      clear hb3
      obtain ⟨q0, hq0⟩ : ∃ q0, c * (d + 1) = q0 := ⟨_, rfl⟩
      rw [hq0]
      have HQ0 := Lib.hid hq0
      rw [hq0] at hN
      clear hq0
      go_wp2_with fail
      go_loop [18] (fun i => ∃ q : Nat, q0 ≤ q ∧ q ≤ 72 ∧ i = .int .i64 q) (fun i => 72 - (intOf i).toNat)
      case atStart => exact ⟨q0, Nat.le_refl _, hN, rfl⟩
      case round =>
        obtain ⟨q, hq1, hq2, rfl⟩ := hrel
        by_cases hq : q < 72
        · have hq' : (q : Int) < 72 := by omega
          have cx := HK3.out.1.at q hq
          rw [HF.out q (by rw [HQ0.out]; exact hq1) hq] at cx
          go_wp2
          exact ⟨⟨q + 1, by omega, by omega, by go_num⟩, by simp [intOf]; omega⟩
        · have hq' : ¬ (q : Int) < 72 := by omega
          have cx := HK3.out.1.bad
          go_wp2_with fail
          refine (awake_any _).mono ?_; rintro e w11 ⟨rfl, b11⟩
          go_wp2
          go_ret
          exact ⟨rfl, bstep HB3.out b11⟩
theorem RingOne_any (c d times : Int) (p : Option Addr) (L cap : Nat) (X : Nat → Int) (w : World) (hX : Sl w .u32 p L X) (hW : ∀ i, i < L → 0 ≤ X i ∧ X i < 4294967296) (hcap : L ≤ cap) :
    Calls Try.prog 6 #[.int .i64 c, .int .i64 d, .int .i64 times, .slice p L cap] w fun e w' => e = .returned (.bool true) ∧ Below w.heap.size w w' := by
  by_cases hb : (c < 1 ∨ 8 < c ∨ d < 1 ∨ 8 < d) ∨ L < 1 ∨ d < L ∨ 100 < times
  · exact one_bad c d times p L cap w hb
  · obtain ⟨c, rfl⟩ : ∃ q : Nat, c = q := ⟨c.toNat, by omega⟩
    obtain ⟨d, rfl⟩ : ∃ q : Nat, d = q := ⟨d.toNat, by omega⟩
    obtain ⟨Z, rfl, hz, he⟩ := hX.list
    cases Z with
    | nil => simp at hb
    | cons z Z =>
      refine one_good c d times p cap z Z w (by omega) (by omega) (by omega) (by omega) (by omega) (by omega) hz hcap fun x hx => ?_
      obtain ⟨i, hi, e⟩ := mem_getD (Z := z :: Z) (z := x) (by simp [hx])
      have := hW i hi
      rw [← he i hi, e] at this
      exact this
end Go.Proofs.Ytbgpimdigkiflaa
