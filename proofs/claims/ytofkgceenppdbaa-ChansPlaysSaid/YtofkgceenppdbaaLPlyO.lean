/- The law ChansPlays: its refusals. -/
import Derived.Test.YtofkgceenppdbaaLPly
namespace Go.Proofs.Ytofkgceenppdbaa
open Go.RowKit
set_option linter.unusedVariables false
set_option linter.unusedSimpArgs false
theorem rcheckv (C : Cfg) (pP pW pC : Option Addr) (cP cW cC : Nat) (w : World) (h : IsC w C ⟨pP, cP, pW, cW, pC, cC⟩) (hN : Big C) :
    Calls Try.prog 9 #[.agg #[.slice pP C.nP cP, .slice pW C.nW cW, .slice pC C.nC cC]] w fun e w' => e = .returned (.int .i64 (ckE C)) ∧ Below w.heap.size w w' := rcheck_any C ⟨pP, cP, pW, cW, pC, cC⟩ w h hN
theorem rframesv (C : Cfg) (pP pW pC : Option Addr) (cP cW cC : Nat) (w : World) (h : IsC w C ⟨pP, cP, pW, cW, pC, cC⟩) (hN : Big C) :
    Calls Try.prog 22 #[.agg #[.slice pP C.nP cP, .slice pW C.nW cW, .slice pC C.nC cC]] w fun e w' => e = .returned (.int .i64 (frE C)) ∧ Below w.heap.size w w' := rframes_any C ⟨pP, cP, pW, cW, pC, cC⟩ w h hN
theorem plays_long (C : Cfg) (l : Lay) (fr : Int) (p : Option Addr) (n cap : Nat) (w : World) (h : longB C = true ∨ 100 < n) :
    Calls Try.prog 6 #[.agg (cfgV C l), .int .i64 fr, .slice p n cap] w fun e w' => e = .returned (.bool true) ∧ Below w.heap.size w w' := by
  obtain ⟨pP, cP, pW, cW, pC, cC⟩ := l
  have HLC := Lib.hid fun (W : World) => longv C pP pW pC cP cW cC W
  unfold cfgV
  simp only
  cases hl : longB C
  · have hn : (100 : Int) < n := by rw [hl] at h; simp at h; omega
    rw [hl] at HLC
    clear h
    go_enter Try.func6, Try.ntmps6
    go_wp2_with fail
    refine (HLC.out _).mono ?_; rintro e w1 ⟨rfl, b1⟩
    have HB1 := Lib.hid (bstep (a := w) (by go_grown) b1)
    clear b1
    go_wp2_with fail
    refine (awake_any _).mono ?_; rintro e w2 ⟨rfl, b2⟩
    go_wp2
    go_ret
    exact ⟨rfl, bstep HB1.out b2⟩
  · rw [hl] at HLC
    clear h
    go_enter Try.func6, Try.ntmps6
    go_wp2_with fail
    refine (HLC.out _).mono ?_; rintro e w1 ⟨rfl, b1⟩
    have HB1 := Lib.hid (bstep (a := w) (by go_grown) b1)
    clear b1
    go_wp2_with fail
    refine (awake_any _).mono ?_; rintro e w2 ⟨rfl, b2⟩
    go_wp2
    go_ret
    exact ⟨rfl, bstep HB1.out b2⟩
set_option maxHeartbeats 2000000 in
/-- a memory of no such size -/
theorem plays_mem (C : Cfg) (l : Lay) (fr : Int) (p : Option Addr) (n cap : Nat) (w : World) (hI : IsC w C l) (hl : longB C = false) (hn : n ≤ 100) (hf : fr < 1 ∨ 1024 < fr) :
    Calls Try.prog 6 #[.agg (cfgV C l), .int .i64 fr, .slice p n cap] w fun e w' => e = .returned (.bool true) ∧ Below w.heap.size w w' := by
  obtain ⟨pP, cP, pW, cW, pC, cC⟩ := l
  have HLC := Lib.hid fun (W : World) => longv C pP pW pC cP cW cC W
  have hN := short_big hl
  have HI := Lib.hid hI
  have HMN := Lib.hid fun (W : World) => mnew_bad fr W hf
  have HX := Lib.hid fun (W : World) => show Calls Try.prog 12 #[.pointer none, .agg #[.slice pP C.nP cP, .slice pW C.nW cW, .slice pC C.nC cC]] W fun e w' => e = .returned (.tuple #[.pointer none, .int .i64 1]) ∧ Below W.heap.size W w' from xnew_nil C ⟨pP, cP, pW, cW, pC, cC⟩ W
  have hck := fun (W : World) (h : IsC W C ⟨pP, cP, pW, cW, pC, cC⟩) => rcheckv C pP pW pC cP cW cC W h hN
  generalize ckE C = E at hck
  have HK := Lib.hid hck
  unfold cfgV
  simp only
  rw [hl] at HLC
  have hn' : ¬ (100 : Int) < n := by omega
  clear hI hl hn hN hck hf
  go_enter Try.func6, Try.ntmps6
  go_wp2_with fail
  refine (HLC.out _).mono ?_; rintro e w1 ⟨rfl, b1⟩
  have HB1 := Lib.hid (bstep (a := w) (by go_grown) b1)
  have HV := Lib.hid (show CV w1 w.heap.size C pP cP pW cW pC cC from ⟨bk_below (bk_new w _) b1, HI.out.below HB1.out⟩)
  clear b1
  obtain ⟨y0, y1, y2, y3⟩ := HV.out.cells
  go_wp2_with fail
  refine (HMN.out _).mono ?_; rintro e w2 ⟨rfl, rfl⟩
  go_wp2_with fail
  refine (HX.out _).mono ?_; rintro e w3 ⟨rfl, b3⟩
  have HB3 := Lib.hid (bstep HB1.out b3)
  have HV3 := Lib.hid (HV.out.below b3)
  clear b3 y0 y1 y2 y3
  obtain ⟨y0, y1, y2, y3⟩ := HV3.out.cells
  go_wp2_with fail
  refine (HK.out _ HV3.out.i).mono ?_; rintro e w4 ⟨rfl, b4⟩
  have HB4 := Lib.hid (bstep HB3.out b4)
  clear b4 y0 y1 y2 y3
  go_wp2_with fail
  refine (awake_any _).mono ?_; rintro e w5 ⟨rfl, b5⟩
  go_wp2
  go_ret
  exact ⟨rfl, bstep HB4.out b5⟩
set_option maxHeartbeats 2000000 in
/-- a configuration that may not be -/
theorem plays_conf (C : Cfg) (l : Lay) (nF : Nat) (p : Option Addr) (n cap : Nat) (w : World) (hI : IsC w C l) (hl : longB C = false) (hn : n ≤ 100) (hf1 : 1 ≤ nF) (hf2 : nF ≤ 1024) (hok : ¬ CkOk C) :
    Calls Try.prog 6 #[.agg (cfgV C l), .int .i64 nF, .slice p n cap] w fun e w' => e = .returned (.bool true) ∧ Below w.heap.size w w' := by
  obtain ⟨pP, cP, pW, cW, pC, cC⟩ := l
  have HLC := Lib.hid fun (W : World) => longv C pP pW pC cP cW cC W
  have hN := short_big hl
  have HI := Lib.hid hI
  have HMN := Lib.hid fun (W : World) => mnew_ok nF W hf1 hf2
  have hxb := fun (mm fb : Nat) (W : World) (h : IsC W C ⟨pP, cP, pW, cW, pC, cC⟩) (hm : MemS W mm fb nF (fun _ => 0)) => show Calls Try.prog 12 #[.pointer (some ⟨mm, 0, none⟩), .agg #[.slice pP C.nP cP, .slice pW C.nW cW, .slice pC C.nC cC]] W fun e w' => e = .returned (.tuple #[.pointer none, .int .i64 (ckE C)]) ∧ Below W.heap.size W w' from xnew_bad C ⟨pP, cP, pW, cW, pC, cC⟩ mm fb nF _ W h hN hm hf1 hok
  have hck := fun (W : World) (h : IsC W C ⟨pP, cP, pW, cW, pC, cC⟩) => rcheckv C pP pW pC cP cW cC W h hN
  have k1 : ckE C ≠ 0 := by rcases ckE_cases C with ⟨h', _⟩ | ⟨_, h' | h'⟩ <;> first | exact absurd h' hok | omega
  generalize ckE C = E at hck hxb k1
  have e1 : (E == 0) = false := beq_eq_false_iff_ne.2 k1
  have e2 : (E != 0) = true := by simpa using k1
  have e3 : (E == E) = true := by simp
  have HK := Lib.hid hck
  have HX := Lib.hid hxb
  unfold cfgV
  simp only
  rw [hl] at HLC
  have hn' : ¬ (100 : Int) < n := by omega
  clear hI hl hn hN hck hxb k1
  go_enter Try.func6, Try.ntmps6
  go_wp2_with fail
  refine (HLC.out _).mono ?_; rintro e w1 ⟨rfl, b1⟩
  have HB1 := Lib.hid (bstep (a := w) (by go_grown) b1)
  have HV := Lib.hid (show CV w1 w.heap.size C pP cP pW cW pC cC from ⟨bk_below (bk_new w _) b1, HI.out.below HB1.out⟩)
  clear b1
  go_wp2_with fail
  refine (HMN.out _).mono ?_; rintro e w2 ⟨mm, fb, rfl, hm, _, _, b2⟩
  have HB2 := Lib.hid (bstep HB1.out b2)
  have HV2 := Lib.hid (HV.out.below b2)
  have HM2 := Lib.hid hm
  clear b2 hm
  obtain ⟨y0, y1, y2, y3⟩ := HV2.out.cells
  go_wp2_with fail
  refine (HX.out mm fb _ HV2.out.i HM2.out).mono ?_; rintro e w3 ⟨rfl, b3⟩
  have HB3 := Lib.hid (bstep HB2.out b3)
  have HV3 := Lib.hid (HV2.out.below b3)
  clear b3 y0 y1 y2 y3
  obtain ⟨y0, y1, y2, y3⟩ := HV3.out.cells
  go_wp2_with fail
  refine (HK.out _ HV3.out.i).mono ?_; rintro e w4 ⟨rfl, b4⟩
  have HB4 := Lib.hid (bstep HB3.out b4)
  clear b4 y0 y1 y2 y3
  go_wp2_with fail
  refine (awake_any _).mono ?_; rintro e w5 ⟨rfl, b5⟩
  go_wp2
  go_ret
  exact ⟨rfl, bstep HB4.out b5⟩
set_option maxHeartbeats 2000000 in
/-- a memory that is too small -/
theorem plays_small (C : Cfg) (l : Lay) (nF : Nat) (p : Option Addr) (n cap : Nat) (w : World) (hI : IsC w C l) (hl : longB C = false) (hn : n ≤ 100) (hf1 : 1 ≤ nF) (hf2 : nF ≤ 1024) (hok : CkOk C) (hs : nF < frE C) :
    Calls Try.prog 6 #[.agg (cfgV C l), .int .i64 nF, .slice p n cap] w fun e w' => e = .returned (.bool true) ∧ Below w.heap.size w w' := by
  obtain ⟨pP, cP, pW, cW, pC, cC⟩ := l
  have HLC := Lib.hid fun (W : World) => longv C pP pW pC cP cW cC W
  have hN := short_big hl
  have HI := Lib.hid hI
  have HMN := Lib.hid fun (W : World) => mnew_ok nF W hf1 hf2
  have HX := Lib.hid fun (mm fb : Nat) (W : World) (h : IsC W C ⟨pP, cP, pW, cW, pC, cC⟩) (hm : MemS W mm fb nF (fun _ => 0)) => show Calls Try.prog 12 #[.pointer (some ⟨mm, 0, none⟩), .agg #[.slice pP C.nP cP, .slice pW C.nW cW, .slice pC C.nC cC]] W fun e w' => e = .returned (.tuple #[.pointer none, .int .i64 2]) ∧ Below W.heap.size W w' from xnew_small C ⟨pP, cP, pW, cW, pC, cC⟩ mm fb nF _ W h hN hm hf1 hok hs
  have hck := fun (W : World) (h : IsC W C ⟨pP, cP, pW, cW, pC, cC⟩) => rcheckv C pP pW pC cP cW cC W h hN
  rw [ckE_ok hok] at hck
  have HFR := Lib.hid fun (W : World) (h : IsC W C ⟨pP, cP, pW, cW, pC, cC⟩) => rframesv C pP pW pC cP cW cC W h hN
  have HK := Lib.hid hck
  unfold cfgV
  simp only
  rw [hl] at HLC
  have hn' : ¬ (100 : Int) < n := by omega
  have d1 : decide ((nF : Int) < frE C) = true := decide_eq_true hs
  clear hI hl hn hN hck hok
  go_enter Try.func6, Try.ntmps6
  go_wp2_with fail
  refine (HLC.out _).mono ?_; rintro e w1 ⟨rfl, b1⟩
  have HB1 := Lib.hid (bstep (a := w) (by go_grown) b1)
  have HV := Lib.hid (show CV w1 w.heap.size C pP cP pW cW pC cC from ⟨bk_below (bk_new w _) b1, HI.out.below HB1.out⟩)
  clear b1
  go_wp2_with fail
  refine (HMN.out _).mono ?_; rintro e w2 ⟨mm, fb, rfl, hm, _, _, b2⟩
  have HB2 := Lib.hid (bstep HB1.out b2)
  have HV2 := Lib.hid (HV.out.below b2)
  have HM2 := Lib.hid hm
  clear b2 hm
  obtain ⟨y0, y1, y2, y3⟩ := HV2.out.cells
  go_wp2_with fail
  refine (HX.out mm fb _ HV2.out.i HM2.out).mono ?_; rintro e w3 ⟨rfl, b3⟩
  have HB3 := Lib.hid (bstep HB2.out b3)
  have HV3 := Lib.hid (HV2.out.below b3)
  clear b3 y0 y1 y2 y3
  obtain ⟨y0, y1, y2, y3⟩ := HV3.out.cells
  go_wp2_with fail
  refine (HK.out _ HV3.out.i).mono ?_; rintro e w4 ⟨rfl, b4⟩
  have HB4 := Lib.hid (bstep HB3.out b4)
  have HV4 := Lib.hid (HV3.out.below b4)
  clear b4 y0 y1 y2 y3
  obtain ⟨y0, y1, y2, y3⟩ := HV4.out.cells
  go_wp2_with fail
  refine (HFR.out _ HV4.out.i).mono ?_; rintro e w5 ⟨rfl, b5⟩
  have HB5 := Lib.hid (bstep HB4.out b5)
  clear b5 y0 y1 y2 y3
  go_wp2_with fail
  refine (awake_any _).mono ?_; rintro e w6 ⟨rfl, b6⟩
  go_wp2
  go_ret
  exact ⟨rfl, bstep HB5.out b6⟩
end Go.Proofs.Ytofkgceenppdbaa
