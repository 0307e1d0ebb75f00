/- Helper text of this seat (None): contracts of functions of the given program and of its references, each told by its theorem. -/
import Derived.Test.YtbgpimdigkiflaaAwake
import Derived.Test.YtbgpimdigkiflaaEqK
namespace Go.Proofs.Ytbgpimdigkiflaa
open Go.RowKit
set_option linter.unusedVariables false
set_option linter.unusedSimpArgs false
theorem kc_info : (Try.prog.info? 37).map (·.size) = some (kc (fun _ => 0) false).size := by kernel_rfl
theorem len_nil (w : World) :
    Calls Try.prog 18 #[.pointer none] w fun e w' => e = .returned (.int .i64 0) ∧ w' = w := by
  go_enter Try.func18, Try.ntmps18
  go_wp2
  go_ret
  exact ⟨rfl, rfl⟩
theorem words_nil (w : World) :
    Calls Try.prog 19 #[.pointer none] w fun e w' => e = .returned (.int .i64 0) ∧ w' = w := by
  go_enter Try.func19, Try.ntmps19
  go_wp2_with fail
  refine (none_nil _).mono ?_
  rintro e w1 ⟨rfl, rfl⟩
  go_wp2
  go_ret
  exact ⟨rfl, rfl⟩
theorem words_zero (g d a m : Nat) (w : World) (h : IsRing w g 0 d a m) :
    Calls Try.prog 19 #[.pointer (some ⟨g, 0, none⟩)] w fun e w' => e = .returned (.int .i64 0) ∧ w' = w := by
  go_enter Try.func19, Try.ntmps19
  go_wp2_with fail
  refine (none_zero g d a m _ (by exact h)).mono ?_
  rintro e w1 ⟨rfl, rfl⟩
  go_wp2
  go_ret
  exact ⟨rfl, rfl⟩
theorem len_zero (g c d a : Nat) (w : World) (h : IsRing w g c d a 0) :
    Calls Try.prog 18 #[.pointer (some ⟨g, 0, none⟩)] w fun e w' => e = .returned (.int .i64 0) ∧ w' = w := len_any g c d a 0 w h
theorem IsKept.below {w w1 : World} {g : Nat} {f : Nat → Int} {b : Bool} (h : IsKept w g f b) (hb : Below w.heap.size w w1) : IsKept w1 g f b := bk_below h hb
theorem IsKept.alloc {w : World} {g : Nat} {f : Nat → Int} {b : Bool} (h : IsKept w g f b) (o : Obj) : IsKept (w.alloc o) g f b := bk_alloc h o
set_option maxHeartbeats 2000000 in
theorem RingNone_any (p : Option Addr) (L cap : Nat) (w : World) :
    Calls Try.prog 5 #[.slice p L cap] w fun e w' => e = .returned (.bool true) ∧ Below w.heap.size w w' := by
  have hmf : ∀ (fn : Fn) (first cap : Array Value) (w : World), (Instr.makeFunc fn first cap).run Try.prog w = .ok (.func fn first cap) w := fun _ _ _ _ => rfl
  have hz := zero_kept
  have heq := fun w => eql_kept (fun _ => 0) false w
  by_cases hL : 100 < L
  · have hL' : (100 : Int) < L := by omega
    go_enter Try.func5, Try.ntmps5
    go_wp2_with fail
    refine (awake_any _).mono ?_; rintro e w3 ⟨rfl, b3⟩
    go_wp2
    go_ret
    exact ⟨rfl, b3⟩
  · have hL' : ¬ (100 : Int) < L := by omega
    go_enter Try.func5, Try.ntmps5
    go_wp2_with fail
    go_loopw [4, 6] (fun r i W' => (((i = .int .i64 0 ∨ i = .int .i64 1) ∧ r = .pointer none) ∨ (i = .int .i64 2 ∧ r = .pointer (some ⟨w.heap.size + 1, 0, none⟩))) ∧ IsKept W' w.heap.size (fun _ => 0) false ∧ IsRing W' (w.heap.size + 1) 0 0 0 0 ∧ Below w.heap.size w W') (fun _ i _ => 2 - (intOf i).toNat)
    case atStart =>
      refine ⟨.inl ⟨.inl rfl, rfl⟩, ?_, ?_, by go_grown⟩
      · exact bk_alloc (bk_new w _) _
      · have := bk_new (w.alloc (.cells (kc (fun _ => 0) false) 37)) (.cells #[.int .i64 0, .int .i64 0, .int .i64 0, .int .i64 0] 57)
        rwa [World.size_alloc] at this
    case round =>
      obtain ⟨hi, hk, hr, hb⟩ := hrel
      have HK := Lib.hid hk
      have HR := Lib.hid hr
      have HB := Lib.hid hb
      clear hk hr hb
      rcases hi with ⟨rfl | rfl, rfl⟩ | ⟨rfl, rfl⟩
      · go_wp2_with fail
        refine (recv_nil _ _).mono ?_; rintro e w1 ⟨rfl, rfl⟩
        go_wp2_with fail
        refine (send_nil _ _ _ _ _).mono ?_; rintro e w2 ⟨rfl, hb2⟩
        go_wp2_with fail
        refine (next_nil _ _).mono ?_; rintro e w3 ⟨rfl, rfl⟩
        go_wp2_with fail
        refine (len_nil _).mono ?_; rintro e w3 ⟨rfl, rfl⟩
        go_wp2_with fail
        refine (words_nil _).mono ?_; rintro e w3 ⟨rfl, rfl⟩
        go_wp2
        exact ⟨⟨.inl ⟨.inr rfl, rfl⟩, HK.out.below hb2, HR.out.below hb2, bstep HB.out hb2⟩, by simp [intOf]⟩
      · go_wp2_with fail
        refine (recv_zero _ _ _ _ _ (by exact HR.out)).mono ?_; rintro e w1 ⟨rfl, rfl⟩
        go_wp2_with fail
        refine (send_zero _ _ _ _ _ _ _ _ (by exact HR.out)).mono ?_; rintro e w2 ⟨rfl, hb2⟩
        have HR2 := Lib.hid (HR.out.below hb2)
        go_wp2_with fail
        refine (next_zero _ _ _ _ _ (by exact HR2.out)).mono ?_; rintro e w3 ⟨rfl, rfl⟩
        go_wp2_with fail
        refine (len_zero _ _ _ _ _ (by exact HR2.out)).mono ?_; rintro e w3 ⟨rfl, rfl⟩
        go_wp2_with fail
        refine (words_zero _ _ _ _ _ (by exact HR2.out)).mono ?_; rintro e w3 ⟨rfl, rfl⟩
        go_wp2
        exact ⟨⟨.inr ⟨rfl, rfl⟩, HK.out.below hb2, HR2.out, bstep HB.out hb2⟩, by simp [intOf]⟩
      · go_wp2_with fail
        refine (new_rs 1 1 _ (by omega) (by omega) (by omega) (by omega)).mono ?_
        rintro e w1 ⟨R, rfl, hr1, hR1, hb1⟩
        have HR1 := Lib.hid hr1
        have HB1 := Lib.hid (bstep HB.out hb1)
        have HK1 := Lib.hid (HK.out.below hb1)
        clear hr1 hb1
        go_wp2_with fail
        refine (recv_nofunc _ _ _ _ _ (by exact HR1.out) (by omega)).mono ?_; rintro e w2 ⟨rfl, rfl⟩
        go_wp2_with fail
        refine (send_nofunc _ _ _ _ _ _ (by exact HR1.out.alloc _) (by omega)).mono ?_; rintro e w3 ⟨rfl, hb3⟩
        have hb23 : Below w2.heap.size w2 w3 := bstep (by go_grown) hb3
        have HR3 := Lib.hid (HR1.out.below hb23)
        have HB3 := Lib.hid (bstep HB1.out hb23)
        have HK3 := Lib.hid (HK1.out.below hb23)
        clear hb3 hb23
        go_wp2_with fail
        refine (next_nofunc _ _ _ _ _ (by exact HR3.out) (by omega)).mono ?_; rintro e w4 ⟨rfl, rfl⟩
        go_wp2_with fail
        refine (len_zero _ _ _ _ _ (by exact HR3.out)).mono ?_; rintro e w4 ⟨rfl, rfl⟩
        go_wp2_with (first
          | (refine wpList_load_row_w 37 _ rfl (by rfl) w.heap.size (by rfl) 37 (kc (fun _ => 0) false) (0, 0) _ HK3.out Try.underlying37 rfl kc_info ?_)
          | (refine wpList_build_w 37 _ rfl (by rfl) (kc (fun _ => 0) false) (by kernel_rfl) ?_))
        refine (awake_any _).mono ?_; rintro e w5 ⟨rfl, b5⟩
        go_wp2
        go_ret
        exact ⟨rfl, bstep HB3.out b5⟩
end Go.Proofs.Ytbgpimdigkiflaa
