/- Helper text of this seat (LNone): contracts of functions of the given program and of its references, each told by its theorem. -/
import Derived.Test.YthdmbnbamlmciaaLw
namespace Go.Proofs.Ythdmbnbamlmciaa
open Go.RowKit
set_option linter.unusedVariables false
set_option linter.unusedSimpArgs false
def zq : Array Value := #[.bool false, .int .i64 0, .int .i64 0, .int .i64 0, .int .i64 0, .int .i64 0, .int .i64 0, .int .i64 0, .int .i64 0, .int .i64 0, .int .i64 0]
theorem zero_q (w : World) : (zeroValue 44).run Try.prog w = .ok (.agg zq) w := by kernel_rfl
/-- a queue that is not there, or that nobody made -/
def Un (p : Option Addr) (w : World) : Prop := p = none ∨ ∃ g, p = some ⟨g, 0, none⟩ ∧ w.heap[g]? = some (.cells zq 44 (0, 0))
theorem Un.below {p : Option Addr} {w w' : World} (h : Un p w) (hb : Below w.heap.size w w') : Un p w' := by
  rcases h with h | ⟨g, e, h⟩
  · exact .inl h
  · exact .inr ⟨g, e, bk_below h hb⟩
theorem asked_no (p : Option Addr) (n : Int) (w : World) (h : Un p w) :
    Calls Try.prog 19 #[.pointer p, .int .i64 n] w fun e w' => e = .returned (.int .i64 1) ∧ w' = w := by
  rcases h with rfl | ⟨g, rfl, h⟩
  · exact asked_nil n w
  · exact asked_un g n w ((bk_cell h 0).trans rfl)
theorem head_no (p : Option Addr) (w : World) (h : Un p w) :
    Calls Try.prog 11 #[.pointer p] w fun e w' => e = .returned (.tuple #[.int .i64 0, .bool false]) ∧ w' = w := by
  rcases h with rfl | ⟨g, rfl, h⟩
  · exact head_nil w
  · exact head_zero g w ((bk_cell h 10).trans rfl)
theorem all_no (p : Option Addr) (w : World) (h : Un p w) :
    Calls Try.prog 14 #[.pointer p] w fun e w' => e = .returned (.slice none 0 0) ∧ w' = w := by
  rcases h with rfl | ⟨g, rfl, h⟩
  · go_enter Try.func14, Try.ntmps14
    go_wp2
    go_ret
    exact ⟨rfl, rfl⟩
  · have c10 : w.cell? ⟨g, 10, none⟩ = some (.int .i64 0) := (bk_cell h 10).trans rfl
    go_enter Try.func14, Try.ntmps14
    go_wp2
    go_rounds 1
    go_ret
    exact ⟨rfl, rfl⟩
theorem pop_no (p : Option Addr) (w : World) (h : Un p w) :
    Calls Try.prog 15 #[.pointer p] w fun e w' => e = .returned (.tuple #[.int .i64 0, .int .i64 1]) ∧ w' = w := by
  have H := Lib.hid h
  clear h
  go_enter Try.func15, Try.ntmps15
  go_wp2_with fail
  refine (asked_no p _ _ H.out).mono ?_; rintro e w1 ⟨rfl, rfl⟩
  go_wp2
  go_ret2
  exact ⟨rfl, rfl⟩
theorem push_no (p : Option Addr) (n : Int) (w : World) (h : Un p w) :
    Calls Try.prog 10 #[.pointer p, .int .i64 n] w fun e w' => e = .returned (.int .i64 1) ∧ w' = w := by
  have H := Lib.hid h
  clear h
  go_enter Try.func10, Try.ntmps10
  go_wp2_with fail
  refine (asked_no p _ _ H.out).mono ?_; rintro e w1 ⟨rfl, rfl⟩
  go_wp2
  go_ret
  exact ⟨rfl, rfl⟩
theorem drop_no (p : Option Addr) (n : Int) (w : World) (h : Un p w) :
    Calls Try.prog 17 #[.pointer p, .int .i64 n] w fun e w' => e = .returned (.int .i64 1) ∧ Below w.heap.size w w' := by
  have H := Lib.hid (h.below (w' := w.alloc (.cells #[.pointer p] 24)) (by go_grown))
  clear h
  go_enter Try.func17, Try.ntmps17
  go_wp2_with fail
  refine (asked_no p _ _ H.out).mono ?_; rintro e w1 ⟨rfl, rfl⟩
  go_wp2
  go_ret
  exact ⟨rfl, by go_grown⟩
theorem turn_no (p : Option Addr) (w : World) (h : Un p w) :
    Calls Try.prog 12 #[.pointer p] w fun e w' => e = .returned (.int .i64 1) ∧ w' = w := by
  have H := Lib.hid h
  clear h
  go_enter Try.func12, Try.ntmps12
  go_wp2_with fail
  refine (pop_no p _ H.out).mono ?_; rintro e w1 ⟨rfl, rfl⟩
  go_wp2
  go_ret
  exact ⟨rfl, rfl⟩
set_option maxHeartbeats 2000000 in
theorem QueueNone_any (n : Int) (w : World) :
    Calls Try.prog 5 #[.int .i64 n] w fun e w' => e = .returned (.bool true) ∧ Below w.heap.size w w' := by
  have hz := zero_q
  go_enter Try.func5, Try.ntmps5
  go_wp2_with fail
  go_loopw [3, 5] (fun q i W' => (((i = .int .i64 0 ∨ i = .int .i64 1) ∧ q = .pointer none) ∨ (i = .int .i64 2 ∧ q = .pointer (some ⟨w.heap.size, 0, none⟩))) ∧ W'.heap[w.heap.size]? = some (.cells zq 44 (0, 0)) ∧ Below w.heap.size w W') (fun _ i _ => 2 - (intOf i).toNat)
  case atStart => exact ⟨.inl ⟨.inl rfl, rfl⟩, bk_new w _, by go_grown⟩
  case round =>
    obtain ⟨hi, hk, hb⟩ := hrel
    have HK := Lib.hid hk
    have HB := Lib.hid hb
    clear hk hb
    rcases hi with ⟨hi, rfl⟩ | ⟨rfl, rfl⟩
    · obtain ⟨j, hj, rfl⟩ : ∃ j : Nat, (j = 0 ∨ j = 1) ∧ u5 = .int .i64 j := by
        rcases hi with rfl | rfl
        · exact ⟨0, .inl rfl, rfl⟩
        · exact ⟨1, .inr rfl, rfl⟩
      clear hi
      rcases hj with rfl | rfl
      · have HU := Lib.hid (show Un none wr from .inl rfl)
        go_wp2_with fail
        refine (pop_no none _ HU.out).mono ?_; rintro e w1 ⟨rfl, rfl⟩
        go_wp2_with fail
        refine (head_no none _ HU.out).mono ?_; rintro e w1 ⟨rfl, rfl⟩
        go_wp2_with fail
        refine (push_no none n _ HU.out).mono ?_; rintro e w1 ⟨rfl, rfl⟩
        go_wp2_with fail
        refine (drop_no none n _ HU.out).mono ?_; rintro e w2 ⟨rfl, hb2⟩
        have HU2 := Lib.hid (HU.out.below hb2)
        have HK2 := Lib.hid (bk_below HK.out hb2)
        have HB2 := Lib.hid (bstep HB.out hb2)
        clear hb2
        go_wp2_with fail
        refine (turn_no none _ HU2.out).mono ?_; rintro e w3 ⟨rfl, rfl⟩
        go_wp2_with fail
        refine (all_no none _ HU2.out).mono ?_; rintro e w3 ⟨rfl, rfl⟩
        go_wp2
        exact ⟨⟨.inl ⟨.inr rfl, rfl⟩, HK2.out, HB2.out⟩, by simp [intOf]⟩
      · have HU := Lib.hid (show Un (some ⟨w.heap.size, 0, none⟩) wr from .inr ⟨_, rfl, HK.out⟩)
        go_wp2_with fail
        refine (pop_no _ _ HU.out).mono ?_; rintro e w1 ⟨rfl, rfl⟩
        go_wp2_with fail
        refine (head_no _ _ HU.out).mono ?_; rintro e w1 ⟨rfl, rfl⟩
        go_wp2_with fail
        refine (push_no _ n _ HU.out).mono ?_; rintro e w1 ⟨rfl, rfl⟩
        go_wp2_with fail
        refine (drop_no _ n _ HU.out).mono ?_; rintro e w2 ⟨rfl, hb2⟩
        have HU2 := Lib.hid (HU.out.below hb2)
        have HK2 := Lib.hid (bk_below HK.out hb2)
        have HB2 := Lib.hid (bstep HB.out hb2)
        clear hb2
        go_wp2_with fail
        refine (turn_no _ _ HU2.out).mono ?_; rintro e w3 ⟨rfl, rfl⟩
        go_wp2_with fail
        refine (all_no _ _ HU2.out).mono ?_; rintro e w3 ⟨rfl, rfl⟩
        go_wp2
        exact ⟨⟨.inr ⟨rfl, rfl⟩, HK2.out, HB2.out⟩, by simp [intOf]⟩
    · go_wp2_with fail
      refine (awake_any _).mono ?_; rintro e w5 ⟨rfl, b5⟩
      go_wp2
      go_ret
      exact ⟨rfl, bstep HB.out b5⟩
end Go.Proofs.Ythdmbnbamlmciaa
