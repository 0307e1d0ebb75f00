/- A ring's Send that is refused, Next and Recv, over words that are kept by whatever keeps them. -/
import Derived.Test.YtofkgceenppdbaaRing2
namespace Go.Proofs.Ytofkgceenppdbaa
open Go.RowKit
set_option linter.unusedVariables false
set_option linter.unusedSimpArgs false
variable {R K N : Nat} {S : (Nat → Int) → World → Prop} {PF GF : FuncId} {rv : Value}
theorem IsRing.alloc {w : World} {g c d a m : Nat} (h : IsRing w g c d a m) (o : Obj) : IsRing (w.alloc o) g c d a m := bk_alloc h o
theorem send_nil (v : Value) (fn : Fn) (fs cs : Array Value) (w : World) :
    Calls Try.prog 37 #[.pointer none, v, .func fn fs cs] w fun e w' => e = .returned (.int .i64 1) ∧ Below w.heap.size w w' := by
  have hqP := eqP
  go_enter Try.func37, Try.ntmps37
  go_wp2_with (go_at_call 54; refine (none_nil _).mono ?_; rintro e w1 ⟨rfl, rfl⟩)
  go_ret
  exact ⟨rfl, by go_grown⟩
theorem send_zero (v : Value) (fn : Fn) (fs cs : Array Value) (d a m : Nat) (w : World) (h : IsRing w R 0 d a m) :
    Calls Try.prog 37 #[.pointer (some ⟨R, 0, none⟩), v, .func fn fs cs] w fun e w' => e = .returned (.int .i64 1) ∧ Below w.heap.size w w' := by
  have hqP := eqP
  go_enter Try.func37, Try.ntmps37
  go_wp2_with (go_at_call 54; refine (none_zero R d a m _ (by exact h.alloc _)).mono ?_; rintro e w1 ⟨rfl, rfl⟩)
  go_ret
  exact ⟨rfl, by go_grown⟩
theorem send_nofunc (v : Value) (c d a m : Nat) (w : World) (h : IsRing w R c d a m) (hc : 1 ≤ c) :
    Calls Try.prog 37 #[.pointer (some ⟨R, 0, none⟩), v, .nilFunc] w fun e w' => e = .returned (.int .i64 1) ∧ Below w.heap.size w w' := by
  have hqP := eqPn
  go_enter Try.func37, Try.ntmps37
  go_wp2_with (go_at_call 54; refine (none_not R c d a m _ (by exact h.alloc _) hc).mono ?_; rintro e w1 ⟨rfl, rfl⟩)
  go_ret
  exact ⟨rfl, by go_grown⟩
theorem send_arg (p : Option Addr) (L cap : Nat) (fn : Fn) (fs cs : Array Value) (c d a m : Nat) (w : World) (h : IsRing w R c d a m) (hc : 1 ≤ c) (hL : L < 1 ∨ d < L) :
    Calls Try.prog 37 #[.pointer (some ⟨R, 0, none⟩), .slice p L cap, .func fn fs cs] w fun e w' => e = .returned (.int .i64 2) ∧ Below w.heap.size w w' := by
  have hqP := eqP
  obtain ⟨h0, h1, h2, h3, f2, f3⟩ := h.cells
  have hb := bk_lt h
  have hL' : (L : Int) < 1 ∨ (¬ (L : Int) < 1 ∧ (d : Int) < L) := by omega
  rcases hL' with hL1 | ⟨hL1, hL2⟩
  all_goals
    go_enter Try.func37, Try.ntmps37
    go_wp2_with (go_at_call 54; refine (none_not R c d a m _ (by exact h.alloc _) hc).mono ?_; rintro e w1 ⟨rfl, rfl⟩)
    go_ret
    exact ⟨rfl, by go_grown⟩
theorem send_full (p : Option Addr) (L cap : Nat) (fn : Fn) (fs cs : Array Value) (c d a : Nat) (w : World) (h : IsRing w R c d a c) (hc : 1 ≤ c) (hL1 : 1 ≤ L) (hL : L ≤ d) :
    Calls Try.prog 37 #[.pointer (some ⟨R, 0, none⟩), .slice p L cap, .func fn fs cs] w fun e w' => e = .returned (.int .i64 12) ∧ Below w.heap.size w w' := by
  have hqP := eqP
  obtain ⟨h0, h1, h2, h3, f2, f3⟩ := h.cells
  have hb := bk_lt h
  have t1 : ¬ (L : Int) < 1 := by omega
  have t2 : ¬ (d : Int) < L := by omega
  go_enter Try.func37, Try.ntmps37
  go_wp2_with (go_at_call 54; refine (none_not R c d a c _ (by exact h.alloc _) hc).mono ?_; rintro e w1 ⟨rfl, rfl⟩)
  go_quiet (fail)
  go_wp2
  go_ret
  exact ⟨rfl, bdrewN ((Below.refl _ _).alloc (Nat.le_refl _) _) _⟩
/-- how many words the first message has, as told -/
def nx (f : Nat → Int) (p d : Nat) : Nat := if 1 ≤ f p ∧ f p ≤ d then (f p).toNat else d
theorem nx_le (f : Nat → Int) (p d : Nat) : nx f p d ≤ d := by unfold nx; split <;> omega
theorem nx_pos (f : Nat → Int) (p d : Nat) (hd : 1 ≤ d) : 1 ≤ nx f p d := by unfold nx; split <;> omega
theorem next_nil (v : Value) (w : World) :
    Calls Try.prog 46 #[.pointer none, v] w fun e w' => e = .returned (.int .i64 0) ∧ w' = w := by
  go_enter Try.func46, Try.ntmps46
  go_wp2_with (go_at_call 54; refine (none_nil _).mono ?_; rintro e w1 ⟨rfl, rfl⟩)
  go_ret
  exact ⟨rfl, rfl⟩
theorem next_zero (v : Value) (d a m : Nat) (w : World) (h : IsRing w R 0 d a m) :
    Calls Try.prog 46 #[.pointer (some ⟨R, 0, none⟩), v] w fun e w' => e = .returned (.int .i64 0) ∧ w' = w := by
  go_enter Try.func46, Try.ntmps46
  go_wp2_with (go_at_call 54; refine (none_zero R d a m _ (by exact h)).mono ?_; rintro e w1 ⟨rfl, rfl⟩)
  go_ret
  exact ⟨rfl, rfl⟩
theorem next_nofunc (c d a m : Nat) (w : World) (h : IsRing w R c d a m) (hc : 1 ≤ c) :
    Calls Try.prog 46 #[.pointer (some ⟨R, 0, none⟩), .nilFunc] w fun e w' => e = .returned (.int .i64 0) ∧ w' = w := by
  have hqG := eqGn
  go_enter Try.func46, Try.ntmps46
  go_wp2_with (go_at_call 54; refine (none_not R c d a m _ (by exact h) hc).mono ?_; rintro e w1 ⟨rfl, rfl⟩)
  go_ret
  exact ⟨rfl, rfl⟩
theorem next_empty (fn : Fn) (fs cs : Array Value) (c d a : Nat) (w : World) (h : IsRing w R c d a 0) (hc : 1 ≤ c) :
    Calls Try.prog 46 #[.pointer (some ⟨R, 0, none⟩), .func fn fs cs] w fun e w' => e = .returned (.int .i64 0) ∧ w' = w := by
  have hqG := eqG
  obtain ⟨h0, h1, h2, h3, f2, f3⟩ := h.cells
  go_enter Try.func46, Try.ntmps46
  go_wp2_with (go_at_call 54; refine (none_not R c d a 0 _ (by exact h) hc).mono ?_; rintro e w1 ⟨rfl, rfl⟩)
  go_ret
  exact ⟨rfl, rfl⟩
theorem next_some (kp : Keeps R K N S PF GF rv) (c d a m : Nat) (f : Nat → Int) (w : World) (hc : 1 ≤ c) (hc8 : c ≤ 8) (hd8 : d ≤ 8) (ha : a < c) (hm : 1 ≤ m) (hN : c * (d + 1) ≤ N)
    (hR : IsRing w R c d a m) (hS : S f w) :
    Calls Try.prog 46 #[.pointer (some ⟨R, 0, none⟩), .func (.func GF) #[rv] #[]] w fun e w' => e = .returned (.int .i64 (nx f (plc c d a 0) d)) ∧ Below w.heap.size w w' := by
  have hqG := eqG
  have eG := kp.eG
  have hp := plc_le (c := c) (d := d) (a := a) (k := 0) hc
  have hw := kp.word hS (plc c d a 0) (by omega)
  obtain ⟨h0, h1, h2, h3, f2, f3⟩ := hR.cells
  have t3 : ((m : Int) == 0) = false := beq_eq_false_iff_ne.2 (by omega)
  have hu : IntKind.u32.wrap (d : Int) = d := IntWalk.u32_in _ (by omega)
  have HR := Lib.hid hR
  have HS := Lib.hid hS
  clear hR hS
  have hpN : plc c d a 0 < N := by omega
  generalize hpos : plc c d a 0 = pos at *
  have HPOS := Lib.hid hpos
  clear hpos
  obtain ⟨x, hx⟩ : ∃ x, f pos = x := ⟨_, rfl⟩
  have hres : (1 ≤ x ∧ x ≤ d ∧ ((nx f pos d : Nat) : Int) = x) ∨ (¬ 1 ≤ x ∧ ((nx f pos d : Nat) : Int) = d) ∨ (1 ≤ x ∧ ¬ x ≤ d ∧ ((nx f pos d : Nat) : Int) = d) := by
    unfold nx
    rw [hx]
    split <;> omega
  rw [hx] at hw
  have HX := Lib.hid hx
  clear hx
  rcases hres with ⟨g1, g2, hnx⟩ | ⟨g1, hnx⟩ | ⟨g1, g2, hnx⟩
  all_goals
    have HNX := Lib.hid hnx
    clear hnx
    have hi : IntKind.i64.wrap x = x := IntWalk.i64_in _ (by omega)
    go_enter Try.func46, Try.ntmps46
    go_wp2_with fail
    refine (none_not R c d a m _ (by exact HR.out) hc).mono ?_
    rintro e w1 ⟨rfl, rfl⟩
    go_wp2_with fail
    refine (place_any R c d a m 0 _ (by exact HR.out) hc hc8 hd8 (by omega) (by omega)).mono ?_
    rintro e w2 ⟨rfl, hb2⟩
    rw [HPOS.out]
    have HB2 := Lib.hid hb2
    have HS2 := Lib.hid (kp.keep HS.out (.of_below hb2))
    clear hb2
    go_wp2_with fail
    refine (kp.get f _ pos HS2.out hpN).mono ?_
    rintro e w3 ⟨rfl, hb3⟩
    rw [HX.out]
    have HB3 := Lib.hid (bstep HB2.out hb3)
    have HR3 := Lib.hid (HR.out.below HB3.out)
    have d1 := HR3.out.cells.2.1
    clear hb3
    go_wp2
    go_ret
    exact ⟨by rw [HNX.out]; rfl, HB3.out⟩
theorem recv_nil (v : Value) (w : World) :
    Calls Try.prog 39 #[.pointer none, v] w fun e w' => e = .returned (.tuple #[.slice none 0 0, .int .i64 1]) ∧ w' = w := by
  go_enter Try.func39, Try.ntmps39
  go_wp2_with (go_at_call 54; refine (none_nil _).mono ?_; rintro e w1 ⟨rfl, rfl⟩)
  go_ret2
  exact ⟨rfl, rfl⟩
theorem recv_zero (v : Value) (d a m : Nat) (w : World) (h : IsRing w R 0 d a m) :
    Calls Try.prog 39 #[.pointer (some ⟨R, 0, none⟩), v] w fun e w' => e = .returned (.tuple #[.slice none 0 0, .int .i64 1]) ∧ w' = w := by
  go_enter Try.func39, Try.ntmps39
  go_wp2_with (go_at_call 54; refine (none_zero R d a m _ (by exact h)).mono ?_; rintro e w1 ⟨rfl, rfl⟩)
  go_ret2
  exact ⟨rfl, rfl⟩
theorem recv_nofunc (c d a m : Nat) (w : World) (h : IsRing w R c d a m) (hc : 1 ≤ c) :
    Calls Try.prog 39 #[.pointer (some ⟨R, 0, none⟩), .nilFunc] w fun e w' => e = .returned (.tuple #[.slice none 0 0, .int .i64 1]) ∧ w' = w := by
  have hqG := eqGn
  go_enter Try.func39, Try.ntmps39
  go_wp2_with (go_at_call 54; refine (none_not R c d a m _ (by exact h) hc).mono ?_; rintro e w1 ⟨rfl, rfl⟩)
  go_ret2
  exact ⟨rfl, rfl⟩
theorem recv_empty (fn : Fn) (fs cs : Array Value) (c d a : Nat) (w : World) (h : IsRing w R c d a 0) (hc : 1 ≤ c) :
    Calls Try.prog 39 #[.pointer (some ⟨R, 0, none⟩), .func fn fs cs] w fun e w' => e = .returned (.tuple #[.slice none 0 0, .int .i64 12]) ∧ w' = w := by
  have hqG := eqG
  obtain ⟨h0, h1, h2, h3, f2, f3⟩ := h.cells
  go_enter Try.func39, Try.ntmps39
  go_wp2_with (go_at_call 54; refine (none_not R c d a 0 _ (by exact h) hc).mono ?_; rintro e w1 ⟨rfl, rfl⟩)
  go_ret2
  exact ⟨rfl, rfl⟩
end Go.Proofs.Ytofkgceenppdbaa
