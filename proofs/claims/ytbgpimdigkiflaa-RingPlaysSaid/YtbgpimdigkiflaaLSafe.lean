/- Helper text of this seat (LSafe): contracts of functions of the given program and of its references, each told by its theorem. -/
import Derived.Test.YtbgpimdigkiflaaLFull
import Derived.Test.YtbgpimdigkiflaaLList
import Derived.StillTailTactics
namespace Go.Proofs.Ytbgpimdigkiflaa
open Go.RowKit
set_option linter.unusedVariables false
set_option linter.unusedSimpArgs false
theorem words_q (g c d a m : Nat) (w : World) (h : IsRing w g c d a m) (hc : 1 ≤ c) (hc8 : c ≤ 8) (hd8 : d ≤ 8) :
    Calls Try.prog 19 #[.pointer (some ⟨g, 0, none⟩)] w fun e w' => e = .returned (.int .i64 (c * (d + 1) : Nat)) ∧ ∃ n, w' = w.drewN n := by
  have hq := cap_le hc8 hd8
  obtain ⟨h0, h1, h2, h3, f2, f3⟩ := h.cells
  have e2 : IntKind.i64.wrap ((d : Int) + 1) = (d : Int) + 1 := IntWalk.i64_in _ (by omega)
  have e3 : (c : Int) * ((d : Int) + 1) = (c * (d + 1) : Nat) := by push_cast; rfl
  have e4 : IntKind.i64.wrap ((c : Int) * ((d : Int) + 1)) = (c * (d + 1) : Nat) := by rw [e3]; exact IntWalk.i64_in _ (by omega)
  generalize c * (d + 1) = q at *
  clear e3
  go_enter Try.func19, Try.ntmps19
  go_wp2_with fail
  refine (none_not g c d a m _ (by exact h) hc).mono ?_
  rintro e w1 ⟨rfl, rfl⟩
  go_wp2_with fail
  first
    | (go_quiet (fail)
       go_wp2
       go_ret
       exact ⟨rfl, _, rfl⟩)
    | (go_wp2
       go_ret
       exact ⟨rfl, 0, rfl⟩)
/-- changes that came in -/
def Chg (w : World) (p : Option Addr) (n : Nat) (D : Nat → Int) (A : Nat → Option Addr) (M CP : Nat → Nat) (Y : Nat → Int) : Prop :=
  n = 0 ∨ ∃ b o, p = some ⟨b, o, none⟩ ∧ ∀ i, i < n → w.cell? ⟨b, o + i * 2, none⟩ = some (.int .i64 (D i)) ∧ w.cell? ⟨b, o + i * 2 + 1, none⟩ = some (.slice (A i) (M i) (CP i)) ∧
    (1 ≤ M i → (∃ b' o', A i = some ⟨b', o', none⟩ ∧ w.cell? ⟨b', o', none⟩ = some (.int .u32 (Y i))) ∧ 0 ≤ Y i ∧ Y i < 4294967296)
theorem Chg.below {w w1 : World} {p : Option Addr} {n : Nat} {D : Nat → Int} {A : Nat → Option Addr} {M CP : Nat → Nat} {Y : Nat → Int} (h : Chg w p n D A M CP Y) (hb : Below w.heap.size w w1) : Chg w1 p n D A M CP Y := by
  rcases h with h | ⟨b, o, e, h⟩
  · exact .inl h
  · refine .inr ⟨b, o, e, fun i hi => ⟨keepc hb (h i hi).1, keepc hb (h i hi).2.1, fun hm => ?_⟩⟩
    obtain ⟨⟨b', o', e', hc⟩, hy⟩ := (h i hi).2.2 hm
    exact ⟨⟨b', o', e', keepc hb hc⟩, hy⟩
set_option maxHeartbeats 2000000 in
theorem safe_bad (c d s : Int) (p : Option Addr) (n cap : Nat) (w : World) (h : (c < 1 ∨ 8 < c ∨ d < 1 ∨ 8 < d) ∨ 20 < n ∨ c < s) :
    Calls Try.prog 4 #[.int .i64 c, .int .i64 d, .int .i64 s, .slice p n cap] w fun e w' => e = .returned (.bool true) ∧ Below w.heap.size w w' := by
  by_cases hbad : c < 1 ∨ 8 < c ∨ d < 1 ∨ 8 < d
  · go_enter Try.func4, Try.ntmps4
    go_wp2_with fail
    refine (new_bad c d _ hbad).mono ?_; rintro e w1 ⟨rfl, rfl⟩
    go_wp2_with fail
    refine (awake_any _).mono ?_; rintro e w3 ⟨rfl, b3⟩
    go_wp2
    go_ret
    exact ⟨rfl, b3⟩
  · obtain ⟨c, rfl⟩ : ∃ q : Nat, c = q := ⟨c.toNat, by omega⟩
    obtain ⟨d, rfl⟩ : ∃ q : Nat, d = q := ⟨d.toNat, by omega⟩
    have h' : (20 : Int) < n ∨ (¬ (20 : Int) < n ∧ (c : Int) < s) := by omega
    rcases h' with k1 | ⟨k1, k2⟩
    all_goals
      go_enter Try.func4, Try.ntmps4
      go_wp2_with fail
      refine (new_rs c d _ (by omega) (by omega) (by omega) (by omega)).mono ?_
      rintro e w1 ⟨R, rfl, hr1, hR1, hb1⟩
      clear hr1
      go_wp2_with fail
      refine (awake_any _).mono ?_; rintro e w3 ⟨rfl, b3⟩
      go_wp2
      go_ret
      exact ⟨rfl, bstep hb1 b3⟩
set_option maxRecDepth 20000 in
set_option maxHeartbeats 8000000 in
theorem safe_good (c d : Nat) (s : Int) (p : Option Addr) (n cap : Nat) (D : Nat → Int) (A : Nat → Option Addr) (M CP : Nat → Nat) (Y : Nat → Int) (w : World) (hc1 : 1 ≤ c) (hc8 : c ≤ 8) (hd1 : 1 ≤ d) (hd8 : d ≤ 8) (hn : n ≤ 20) (hs : s ≤ c)
    (hch : Chg w p n D A M CP Y) :
    Calls Try.prog 4 #[.int .i64 c, .int .i64 d, .int .i64 s, .slice p n cap] w fun e w' => e = .returned (.bool true) ∧ Below w.heap.size w w' := by
  have hmf : ∀ (fn : Fn) (first cap : Array Value) (w : World), (Instr.makeFunc fn first cap).run Try.prog w = .ok (.func fn first cap) w := fun _ _ _ _ => rfl
  have hz := zero_kept
  have hN := cap_le hc8 hd8
  have k1 : ¬ (20 : Int) < n := by omega
  have k2 : ¬ (c : Int) < s := by omega
  have HCH := Lib.hid hch
  clear hch
  go_enter Try.func4, Try.ntmps4
  go_wp2_with fail
  refine (new_rs c d _ hc1 hc8 hd1 hd8).mono ?_
  rintro e w1 ⟨R, rfl, hr1, hR1, hb1⟩
  have hRl := bk_lt hr1
  have hne : w1.heap.size ≠ R := by omega
  have kp := keeps R w1.heap.size hne
  have HR2 := Lib.hid (hr1.alloc (.cells (kc (fun _ => 0) false) 37))
  have HK2 := Lib.hid (ks_new w1)
  have HB2 := Lib.hid (hb1.alloc hb1.size (.cells (kc (fun _ => 0) false) 37))
  have hz2 := hb1.size
  clear hr1 hb1
  go_wp2_with fail
  go_loopw [12] (fun i W' => ∃ (j : Nat) (f : Nat → Int), ((j : Int) ≤ s ∨ j = 0) ∧ i = .int .i64 j ∧ IsRing W' R c d 0 j ∧ KS w1.heap.size f W' ∧ Below w.heap.size w W') (fun i _ => 8 - (intOf i).toNat)
  case atStart => exact ⟨0, fun _ => 0, .inr rfl, rfl, HR2.out, HK2.out, HB2.out⟩
  case round =>
    obtain ⟨j, f, hj, rfl, hr, hk, hb⟩ := hrel
    have hRw := bk_lt hr
    have hKw := bk_lt hk.1
    have HR := Lib.hid hr
    have HK := Lib.hid hk
    have HB := Lib.hid hb
    have hzw := hb.size
    clear hr hk hb
    by_cases hjt : (j : Int) < s
    · have s1 : IntKind.u32.wrap (j : Int) = j := IntWalk.u32_in _ (by omega)
      go_wp2_with fail
      refine (send_ok kp c d 0 j 1 1 wr.heap.size 0 f (fun _ => j) _ hc1 hc8 hd8 (by omega) (by omega) hN (by omega) (Nat.le_refl _) hd1 (by exact HR.out.alloc _) (by exact HK.out.alloc _) (by omega) (by omega)
        (by exact (fun i hi => by obtain rfl : i = 0 := by omega
                                  exact (bk_cell (bk_new wr _) 0).trans rfl)) (fun i hi => by omega)).mono ?_
      rintro e w3 ⟨rfl, hr3, hk3, hkk3⟩
      have HR3 := Lib.hid hr3
      have HK3 := Lib.hid hk3
      have HB3 := Lib.hid (hkk3.below (HB.out.alloc HB.out.size _) hR1 (by omega) (by have := HB.out.size; simp; omega))
      clear hr3 hk3 hkk3
      go_wp2
      exact ⟨⟨j + 1, _, .inl (by omega), by go_num, HR3.out, HK3.out, HB3.out⟩, by simp [intOf]; omega⟩
    · obtain ⟨S, hS⟩ : ∃ S : Nat, S = j := ⟨_, rfl⟩
      subst hS
      have hsS : ¬ (S : Int) < s := hjt
      have hS8 : S ≤ c := by omega
      have hsS2 : s ≤ S := by omega
      have hsS3 : (S : Int) ≤ s ∨ S = 0 := hj
      obtain ⟨wo, rfl⟩ : ∃ wo : World, wo = wr := ⟨_, rfl⟩
      have HCH2 := Lib.hid (HCH.out.below HB.out)
      go_wp2_with fail
      go_loopw [13] (fun i W' => ∃ (q : Nat) (f : Nat → Int), q ≤ n ∧ i = .int .i64 q ∧ IsRing W' R c d 0 S ∧ KS w1.heap.size f W' ∧ Below w.heap.size w W') (fun i _ => 20 - (intOf i).toNat)
      case atStart => exact ⟨0, f, by omega, rfl, HR.out, HK.out, HB.out⟩
      case round =>
        obtain ⟨q, f2, hq, rfl, hr, hk, hb⟩ := hrel
        have hRw2 := bk_lt hr
        have hKw2 := bk_lt hk.1
        have HRq := Lib.hid hr
        have HKq := Lib.hid hk
        have HBq := Lib.hid hb
        have HCHq := Lib.hid (HCH.out.below hb)
        have hzw2 := hb.size
        clear hr hk hb
        by_cases hqn : q < n
        · have hqn' : (q : Int) < n := by omega
          have hq20 : (q : Int) < 20 := by omega
          rcases HCHq.out with h0 | ⟨b, o, rfl, hch⟩
          · omega
          have x0 := (hch q hqn).1
          have x1 := (hch q hqn).2.1
          have x2 := (hch q hqn).2.2
          have hMn : 1 ≤ M q ∨ M q = 0 := by omega
          have hwq := fun (n : Nat) => words_q R c d 0 S (wr.drewN n) (by exact HRq.out) hc1 hc8 hd8
          obtain ⟨wn, hwn⟩ : ∃ wn, c * (d + 1) = wn := ⟨_, rfl⟩
          rw [hwn] at hwq
          have HWQ := Lib.hid hwq
          clear hch hwq
          have HWN := Lib.hid hwn
          have hwn72 : wn ≤ 72 := by omega
          clear hwn
          by_cases hgo : 1 ≤ M q ∧ 0 ≤ D q ∧ D q < wn
          · obtain ⟨hM, hD0, hD1⟩ := hgo
            obtain ⟨⟨b', o', hA, hy⟩, hy0, hy1⟩ := x2 hM
            rw [hA] at x1
            obtain ⟨dq, hdq⟩ : ∃ dq : Nat, D q = dq := ⟨(D q).toNat, by omega⟩
            rw [hdq] at x0 hD1 hD0
            have e0 : decide ((M q : Int) > 0) = true := by simp; omega
            have e0' : decide (0 < (M q : Int)) = true := by simp; omega
            have e1 : decide ((dq : Int) ≥ 0) = true := by simp
            have e1' : decide (0 ≤ (dq : Int)) = true := by simp
            have e2 : decide ((dq : Int) < (wn : Int)) = true := by simpa using hD1
            have e2n : decide (dq < wn) = true := by simp; omega
            have e0n : decide (0 < M q) = true := by simp; omega
            clear x2 hMn
            go_wp2_with fail
            go_quiet ((go_at_call 19; exact Calls.quiet_of (HWQ.out _)))
            go_wp2_with fail
            refine still_tail 12 (by kernel_rfl) (by kernel_rfl) fun W hW => ?_
            have HRW := Lib.hid (show IsRing W R c d 0 S by rw [hW]; exact HRq.out)
            have HKW := Lib.hid (show KS w1.heap.size f2 W by rw [hW]; exact HKq.out)
            have HBW := Lib.hid (show Below w.heap.size w W by rw [hW]; exact (bdrewN HBq.out _).drew)
            have y0 : W.cell? ⟨b, o + q * 2, none⟩ = some (.int .i64 dq) := by rw [hW]; exact x0
            have y1 : W.cell? ⟨b, o + q * 2 + 1, none⟩ = some (.slice (some ⟨b', o', none⟩) (M q) (CP q)) := by rw [hW]; exact x1
            have y2 : W.cell? ⟨b', o', none⟩ = some (.int .u32 (Y q)) := by rw [hW]; exact hy
            have hzW : wr.heap.size = W.heap.size := by rw [hW]; rfl
            have hM1 : (0 : Int) < (M q : Int) := by omega
            have hM1n : 0 < M q := by omega
            clear hW x0 x1 hy
            simp only [List.take_succ_cons, List.take_zero, List.drop_succ_cons, List.drop_zero]
            repeat still_step
            refine wpStill_nil ?_
            go_wp2_with fail
            refine (kp.put f2 _ dq (Y q) HKW.out (by omega) hy0 hy1).mono ?_
            rintro e w5 ⟨rfl, hk5, hkk5⟩
            have HR5 := Lib.hid (show IsRing w5 R c d 0 S from hkk5.blk HRW.out (by omega))
            have HK5 := Lib.hid hk5
            have HB5 := Lib.hid (Kept.below HBW.out hkk5 (by omega) HBW.out.size)
            clear hk5 hkk5
            go_wp2
            exact ⟨⟨q + 1, _, by omega, by go_num, HR5.out, HK5.out, HB5.out⟩, by simp [intOf]; omega⟩
          · rcases hMn with hM | hM
            · have e0 : decide ((M q : Int) > 0) = true := by simp; omega
              have e0' : decide (0 < (M q : Int)) = true := by simp; omega
              by_cases hD0 : 0 ≤ D q
              · have e1 : decide (D q ≥ 0) = true := by simpa using hD0
                have e1' : decide (0 ≤ D q) = true := by simpa using hD0
                have e0n : decide (0 < M q) = true := by simp; omega
                have e2 : decide (D q < (wn : Int)) = false := by
                  have : ¬ D q < wn := fun h => hgo ⟨hM, hD0, h⟩
                  simpa using this
                clear x2 hgo hM
                go_wp2_with fail
                go_quiet ((go_at_call 19; exact Calls.quiet_of (HWQ.out _)))
                go_wp2
                exact ⟨⟨q + 1, f2, by omega, by go_num, HRq.out, HKq.out, bdrewN HBq.out _⟩, by simp [intOf]; omega⟩
              · have e1 : decide (D q ≥ 0) = false := by simpa using hD0
                have e1' : decide (0 ≤ D q) = false := by simpa using hD0
                have e0n : decide (0 < M q) = true := by simp; omega
                clear x2 hgo hM hD0
                go_wp2_with fail
                go_quiet (fail)
                go_wp2
                exact ⟨⟨q + 1, f2, by omega, by go_num, HRq.out, HKq.out, bdrewN HBq.out _⟩, by simp [intOf]; omega⟩
            · have e0 : decide ((M q : Int) > 0) = false := by simp [hM]
              have e0' : decide (0 < (M q : Int)) = false := by simp [hM]
              have e0n : decide (0 < M q) = false := by simp [hM]
              clear x2 hgo hM
              go_wp2_with fail
              go_quiet (fail)
              go_wp2
              exact ⟨⟨q + 1, f2, by omega, by go_num, HRq.out, HKq.out, bdrewN HBq.out _⟩, by simp [intOf]; omega⟩
        · obtain ⟨wp, rfl⟩ : ∃ wp : World, wp = wr := ⟨_, rfl⟩
          have hqn' : ¬ (q : Int) < n := by omega
          go_wp2_with fail
          go_loopw [14] (fun i W' => ∃ (j2 a : Nat) (f : Nat → Int), j2 ≤ S ∧ i = .int .i64 j2 ∧ a < c ∧ IsRing W' R c d a (S - j2) ∧ KS w1.heap.size f W' ∧ Below w.heap.size w W') (fun i _ => 8 - (intOf i).toNat)
          case atStart => exact ⟨0, 0, f2, by omega, rfl, by omega, HRq.out, HKq.out, HBq.out⟩
          case round =>
            obtain ⟨j2, a, f3, hj2, rfl, ha, hr, hk, hb⟩ := hrel
            have hRw3 := bk_lt hr
            have hKw3 := bk_lt hk.1
            have HR3 := Lib.hid hr
            have HK3 := Lib.hid hk
            have HB3 := Lib.hid hb
            have hzw3 := hb.size
            clear hr hk hb
            by_cases hjs : (j2 : Int) < s
            · have hm1 : 1 ≤ S - j2 := by omega
              obtain ⟨ln, hln⟩ : ∃ ln, nx f3 (plc c d a 0) d = ln := ⟨_, rfl⟩
              have hl1 : 1 ≤ ln := by rw [← hln]; exact nx_pos _ _ _ hd1
              have hl2 : ln ≤ d := by rw [← hln]; exact nx_le _ _ _
              have e1 : ¬ (ln : Int) < 1 := by omega
              have e2 : ¬ (d : Int) < ln := by omega
              have h1 := fun (W : World) (hR : IsRing W R c d a (S - j2)) (hS : KS w1.heap.size f3 W) => next_some kp c d a (S - j2) f3 W hc1 hc8 hd8 ha hm1 hN hR hS
              rw [hln] at h1
              have H1 := Lib.hid h1
              have HLN := Lib.hid hln
              clear h1 hln
              go_wp2_with fail
              refine (H1.out _ HR3.out HK3.out).mono ?_
              rintro e w5 ⟨rfl, hb5⟩
              have HR5 := Lib.hid (HR3.out.below hb5)
              have HK5 := Lib.hid (HK3.out.below hb5)
              have HB5 := Lib.hid (bstep HB3.out hb5)
              have hzw5 := hb5.size
              clear hb5
              go_wp2_with fail
              refine (recv_some kp c d a (S - j2) f3 _ hc1 hc8 hd1 hd8 ha hm1 (by omega) hN (by omega) (by exact HR5.out) HK5.out).mono ?_
              rintro e w6 ⟨v6, rfl, ho6, hr6, hk6⟩
              obtain ⟨p6, c6, e6, _⟩ := own_sl ho6
              rw [msg_length, HLN.out] at e6
              subst e6
              have HR6 := Lib.hid (show IsRing w6 R c d ((a + 1) % c) (S - (j2 + 1)) by rw [show S - (j2 + 1) = S - j2 - 1 by omega]; exact hr6)
              have HK6 := Lib.hid (kp.keep HK5.out hk6)
              have HB6 := Lib.hid (hk6.below HB5.out hR1 HB5.out.size)
              clear ho6 hr6 hk6
              go_wp2
              exact ⟨⟨j2 + 1, _, f3, by omega, by go_num, Nat.mod_lt _ (by omega), HR6.out, HK6.out, HB6.out⟩, by simp [intOf]; omega⟩
            · have hj3 : S - j2 = 0 := by omega
              rw [hj3] at HR3
              go_wp2_with fail
              refine (recv_empty _ _ _ c d a _ (by exact HR3.out) hc1).mono ?_
              rintro e w5 ⟨rfl, rfl⟩
              have cx := HK3.out.1.bad
              go_wp2_with fail
              refine (len_any R c d _ 0 _ (by exact HR3.out)).mono ?_; rintro e w8 ⟨rfl, rfl⟩
              go_wp2_with fail
              refine (awake_any _).mono ?_; rintro e w11 ⟨rfl, b11⟩
              go_wp2
              go_ret
              exact ⟨rfl, bstep HB3.out b11⟩
end Go.Proofs.Ytbgpimdigkiflaa
