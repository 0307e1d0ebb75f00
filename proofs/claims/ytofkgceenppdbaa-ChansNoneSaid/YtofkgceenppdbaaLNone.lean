/- The law ChansNone. -/
import Derived.Test.YtofkgceenppdbaaXLong
namespace Go.Proofs.Ytofkgceenppdbaa
open Go.RowKit
set_option linter.unusedVariables false
set_option linter.unusedSimpArgs false
theorem none_long (C : Cfg) (l : Lay) (part ch : Int) (q : Option Addr) (n cap : Nat) (w : World) (h : longB C = true ∨ 100 < n) :
    Calls Try.prog 7 #[.agg (cfgV C l), .int .i64 part, .int .i64 ch, .slice q n cap] w fun e w' => e = .returned (.bool true) ∧ Below w.heap.size w w' := by
  obtain ⟨pP, cP, pW, cW, pC, cC⟩ := l
  have HLC := Lib.hid fun (W : World) => longv C pP pW pC cP cW cC W
  unfold cfgV
  simp only
  cases hl : longB C
  · have hn : (100 : Int) < n := by rw [hl] at h; simp at h; omega
    rw [hl] at HLC
    clear h
    go_enter Try.func7, Try.ntmps7
    go_wp2_with fail
    refine (HLC.out _).mono ?_; rintro e w1 ⟨rfl, b1⟩
    have HB1 := Lib.hid (bstep (a := w) (by go_grown) b1)
    clear b1
    go_wp2_with fail
    refine (awake_any _).mono ?_; rintro e w2 ⟨rfl, b2⟩
    go_wp2
    go_ret
    exact ⟨rfl, bstep HB1.out b2⟩
  · rw [hl] at HLC
    clear h
    go_enter Try.func7, Try.ntmps7
    go_wp2_with fail
    refine (HLC.out _).mono ?_; rintro e w1 ⟨rfl, b1⟩
    have HB1 := Lib.hid (bstep (a := w) (by go_grown) b1)
    clear b1
    go_wp2_with fail
    refine (awake_any _).mono ?_; rintro e w2 ⟨rfl, b2⟩
    go_wp2
    go_ret
    exact ⟨rfl, bstep HB1.out b2⟩
theorem zero_not (n : Int) : n < 0 ∨ ((0 : Nat) : Int) ≤ n := by omega
set_option maxHeartbeats 2000000 in
theorem none_short (C : Cfg) (l : Lay) (part ch : Int) (q : Option Addr) (n cap : Nat) (w : World) (hI : IsC w C l) (hl : longB C = false) (hn : n ≤ 100) :
    Calls Try.prog 7 #[.agg (cfgV C l), .int .i64 part, .int .i64 ch, .slice q n cap] w fun e w' => e = .returned (.bool true) ∧ Below w.heap.size w w' := by
  obtain ⟨pP, cP, pW, cW, pC, cC⟩ := l
  have HLC := Lib.hid fun (W : World) => longv C pP pW pC cP cW cC W
  have HI := Lib.hid hI
  have HX := Lib.hid fun (W : World) => show Calls Try.prog 12 #[.pointer none, .agg #[.slice pP C.nP cP, .slice pW C.nW cW, .slice pC C.nC cC]] W fun e w' => e = .returned (.tuple #[.pointer none, .int .i64 1]) ∧ Below W.heap.size W w' from xnew_nil C ⟨pP, cP, pW, cW, pC, cC⟩ W
  unfold cfgV
  simp only
  rw [hl] at HLC
  have hn' : ¬ (100 : Int) < n := by omega
  clear hI hl hn
  go_enter Try.func7, Try.ntmps7
  go_wp2_with fail
  refine (HLC.out _).mono ?_; rintro e w1 ⟨rfl, b1⟩
  have HB1 := Lib.hid (bstep (a := w) (by go_grown) b1)
  have HV1 := Lib.hid (bk_below (bk_new w (.cells #[.slice pP C.nP cP, .slice pW C.nW cW, .slice pC C.nC cC] 26)) b1)
  have hlt : w.heap.size < w1.heap.size := bk_lt HV1.out
  clear b1
  go_wp2_with fail
  go_loopw [9, 11] (fun r i W' => (((i = .int .i64 0 ∨ i = .int .i64 1) ∧ r = .pointer none) ∨ (i = .int .i64 2 ∧ r = .pointer (some ⟨w1.heap.size, 0, none⟩))) ∧ W'.heap[w1.heap.size]? = some (.cells #[.bool false, .slice none 0 0] 71 (0, 0)) ∧ W'.heap[w.heap.size]? = some (.cells #[.slice pP C.nP cP, .slice pW C.nW cW, .slice pC C.nC cC] 26 (0, 0)) ∧ Below w.heap.size w W') (fun _ i _ => 2 - (intOf i).toNat)
  case atStart => exact ⟨.inl ⟨.inl rfl, rfl⟩, bk_new w1 _, bk_alloc HV1.out _, HB1.out.alloc HB1.out.size _⟩
  case round =>
    obtain ⟨hi, hk, hr, hb⟩ := hrel
    have HK := Lib.hid hk
    have HR := Lib.hid hr
    have HB := Lib.hid hb
    have hx0 : wr.cell? ⟨w1.heap.size, 0, none⟩ = some (.bool false) := (bk_cell hk 0).trans rfl
    have hc0 : wr.cell? ⟨w.heap.size, 0, none⟩ = some (.slice pP C.nP cP) := (bk_cell hr 0).trans rfl
    have hc1 : wr.cell? ⟨w.heap.size, 1, none⟩ = some (.slice pW C.nW cW) := (bk_cell hr 1).trans rfl
    have hc2 : wr.cell? ⟨w.heap.size, 2, none⟩ = some (.slice pC C.nC cC) := (bk_cell hr 2).trans rfl
    clear hk hr hb
    rcases hi with ⟨rfl | rfl, rfl⟩ | ⟨rfl, rfl⟩
    · go_wp2_with fail
      refine (recv_err _ part ch 1 _ (by decide) (may_nil part ch false _)).mono ?_; rintro e w2 ⟨rfl, rfl⟩
      go_wp2_with fail
      refine (next_err _ part ch 1 _ (by decide) (may_nil part ch false _)).mono ?_; rintro e w2 ⟨rfl, rfl⟩
      go_wp2_with fail
      refine (send_err _ part ch 1 q n cap _ (by decide) (may_nil part ch true _)).mono ?_; rintro e w2 ⟨rfl, rfl⟩
      go_wp2_with fail
      refine (may_nil part ch true _).mono ?_; rintro e w2 ⟨rfl, rfl⟩
      go_wp2_with fail
      refine (words_nil ch _).mono ?_; rintro e w2 ⟨rfl, rfl⟩
      go_wp2_with fail
      refine (room_nil ch _).mono ?_; rintro e w2 ⟨rfl, rfl⟩
      go_wp2
      exact ⟨⟨.inl ⟨.inr rfl, rfl⟩, HK.out, HR.out, HB.out⟩, by simp [intOf]⟩
    · go_wp2_with fail
      refine (recv_err _ part ch 1 _ (by decide) (may_zero w1.heap.size 0 0 none part ch false _ HK.out)).mono ?_; rintro e w2 ⟨rfl, rfl⟩
      go_wp2_with fail
      refine (next_err _ part ch 1 _ (by decide) (may_zero w1.heap.size 0 0 none part ch false _ HK.out)).mono ?_; rintro e w2 ⟨rfl, rfl⟩
      go_wp2_with fail
      refine (send_err _ part ch 1 q n cap _ (by decide) (may_zero w1.heap.size 0 0 none part ch true _ HK.out)).mono ?_; rintro e w2 ⟨rfl, rfl⟩
      go_wp2_with fail
      refine (may_zero w1.heap.size 0 0 none part ch true _ HK.out).mono ?_; rintro e w2 ⟨rfl, rfl⟩
      go_wp2_with fail
      refine (words_no w1.heap.size 0 0 false none ch _ HK.out (zero_not ch)).mono ?_; rintro e w2 ⟨rfl, rfl⟩
      go_wp2_with fail
      refine (room_no w1.heap.size 0 0 false none ch _ HK.out (zero_not ch)).mono ?_; rintro e w2 ⟨rfl, rfl⟩
      go_wp2
      exact ⟨⟨.inr ⟨rfl, rfl⟩, HK.out, HR.out, HB.out⟩, by simp [intOf]⟩
    · go_wp2_with fail
      refine (HX.out _).mono ?_; rintro e w2 ⟨rfl, hb2⟩
      have HB2 := Lib.hid (bstep HB.out hb2)
      clear hb2
      go_wp2_with fail
      refine (awake_any _).mono ?_; rintro e w5 ⟨rfl, b5⟩
      go_wp2
      go_ret
      exact ⟨rfl, bstep HB2.out b5⟩
theorem ChansNone_any (C : Cfg) (l : Lay) (part ch : Int) (q : Option Addr) (n cap : Nat) (w : World) (hI : IsC w C l) :
    Calls Try.prog 7 #[.agg (cfgV C l), .int .i64 part, .int .i64 ch, .slice q n cap] w fun e w' => e = .returned (.bool true) ∧ Below w.heap.size w w' := by
  by_cases h : longB C = true ∨ 100 < n
  · exact none_long C l part ch q n cap w h
  · exact none_short C l part ch q n cap w hI (by cases hl : longB C <;> simp_all) (by omega)
end Go.Proofs.Ytofkgceenppdbaa
