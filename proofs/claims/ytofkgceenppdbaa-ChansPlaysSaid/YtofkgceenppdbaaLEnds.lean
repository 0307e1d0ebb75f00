/- The law ChansEnds. -/
import Derived.Test.YtofkgceenppdbaaXLong
namespace Go.Proofs.Ytofkgceenppdbaa
open Go.RowKit
set_option linter.unusedVariables false
set_option linter.unusedSimpArgs false
theorem frE_pos {C : Cfg} (h : CkOk C) : ∃ n : Nat, frE C = n ∧ 1 ≤ n ∧ n ≤ 1024 := by
  have h1 := h.2
  have h2 := frE_ok h.1
  have h3 := h.1.N
  have h4 := (h.1.sumC (Nat.le_refl _)).1
  have h5 := sumF_bd (f := fP C) (n := C.nP) (b := 259) (fun i hi => by have := h.1.fP_bd hi; omega)
  have h6 : 5 ≤ sumF (fP C) 1 := by simp only [sumF]; have := h.1.fP_bd (i := 0) (by omega); omega
  have h7 := sumF_le (f := fP C) (n := C.nP) (fun i hi => by have := h.1.fP_bd hi; omega) (i := 1) (j := C.nP) (by omega) (by omega)
  exact ⟨(frE C).toNat, by omega, by omega, by omega⟩
theorem mayE_send {C : Cfg} {i : Nat} {part : Int} (hi : i < C.nC) : mayE C part i true = if part = C.cf i then 0 else 8 := by
  unfold mayE
  rw [if_neg (by omega), Int.toNat_natCast]
  by_cases h : part = C.cf i <;> simp [h]
theorem mayE_recv {C : Cfg} {i : Nat} {part : Int} (hi : i < C.nC) : mayE C part i false = if part = C.ct i then 0 else 8 := by
  unfold mayE
  rw [if_neg (by omega), Int.toNat_natCast]
  by_cases h : part = C.ct i <;> simp [h]
theorem sendE_in {C : Cfg} {i n : Nat} {part : Int} {LL : Nat → List (List Int)} (hi : i < C.nC) : sendE C LL part i n = if part = C.cf i then if n < 1 ∨ dN C i < n then 2 else if (LL i).length = cN C i then 12 else 0 else 8 := by
  unfold sendE
  rw [mayE_send hi, Int.toNat_natCast]
  by_cases h : part = C.cf i <;> simp [h]
theorem sendL_in {C : Cfg} {i : Nat} {part : Int} {LL : Nat → List (List Int)} {xs : List Int} (hi : i < C.nC) : sendL C LL part i xs = if sendE C LL part i xs.length = 0 then updL LL i (LL i ++ [xs]) else LL := by
  unfold sendL
  rw [Int.toNat_natCast]
theorem recvE_in {C : Cfg} {i : Nat} {part : Int} {LL : Nat → List (List Int)} (hi : i < C.nC) : recvE C LL part i = if part = C.ct i then if LL i = [] then 12 else 0 else 8 := by
  unfold recvE
  rw [mayE_recv hi, Int.toNat_natCast]
  by_cases h : part = C.ct i <;> simp [h]
theorem recvL_in {C : Cfg} {i : Nat} {part : Int} {LL : Nat → List (List Int)} (hi : i < C.nC) : recvL C LL part i = if part = C.ct i then updL LL i (LL i).tail else LL := by
  unfold recvL
  rw [mayE_recv hi, Int.toNat_natCast]
  by_cases h : part = C.ct i <;> simp [h]
theorem roomE_in {C : Cfg} {i : Nat} {LL : Nat → List (List Int)} (hi : i < C.nC) : roomE C LL i = C.cc i - (LL i).length := by
  unfold roomE
  rw [if_neg (by omega), Int.toNat_natCast]
theorem updL_at {LL : Nat → List (List Int)} {i : Nat} {L : List (List Int)} : updL LL i L i = L := if_pos rfl
/-- what the law sees -/
structure EndF (C : Cfg) (part : Int) (i : Nat) (E1 R1 R2 E3 R3 : Int) : Prop where
  s : (part = C.cf i ∧ part ≠ C.ct i ∧ E1 = 0 ∧ R1 = C.cc i - 1 ∧ E3 = 8 ∧ R3 = R2) ∨ (part ≠ C.cf i ∧ part = C.ct i ∧ E1 = 8 ∧ R1 = C.cc i ∧ E3 = 0 ∧ R3 = R2 + 1) ∨ (part ≠ C.cf i ∧ part ≠ C.ct i ∧ E1 = 8 ∧ R1 = C.cc i ∧ E3 = 8 ∧ R3 = R2)
  b : 0 ≤ R2 ∧ R2 ≤ 8 ∧ 1 ≤ C.cc i ∧ C.cc i ≤ 8
theorem ends_pure {C : Cfg} {i : Nat} {part : Int} (h : CkOk C) (hi : i < C.nC) (L1 L2 : Nat → List (List Int)) (h1 : L1 = sendL C (fun _ => []) part i [5]) (h2 : L2 = sendL C L1 (C.cf i) i [6]) :
    EndF C part i (sendE C (fun _ => []) part i 1) (roomE C L1 i) (roomE C L2 i) (recvE C L2 part i) (roomE C (recvL C L2 part i) i) := by
  obtain ⟨l1, l2, l3, l4, l5, l6⟩ := cN_eq h hi
  have hft := (h.1.C hi).2.2.1
  have e1 : sendE C (fun _ => []) part i 1 = if part = C.cf i then 0 else 8 := by
    rw [sendE_in hi]
    by_cases hp : part = C.cf i
    · rw [if_pos hp, if_pos hp, if_neg (by omega), if_neg (by simp; omega)]
    · rw [if_neg hp, if_neg hp]
  have e2 : L1 i = if part = C.cf i then [[5]] else [] := by
    rw [h1, sendL_in hi, show ([(5 : Int)].length) = 1 from rfl, e1]
    by_cases hp : part = C.cf i
    · rw [if_pos hp, if_pos rfl, updL_at, if_pos hp]; rfl
    · rw [if_neg hp, if_neg (by decide), if_neg hp]
  have e3a : sendE C L1 (C.cf i) i [(6 : Int)].length = if (L1 i).length = cN C i then 12 else 0 := by
    rw [sendE_in hi, if_pos rfl, if_neg (by simp; omega)]
  have e3 : L2 i ≠ [] ∧ (L2 i).length ≤ cN C i := by
    rw [h2, sendL_in hi, e3a]
    by_cases hc : (L1 i).length = cN C i
    · rw [if_pos hc, if_neg (by decide)]
      exact ⟨fun e => by rw [e] at hc; simp at hc; omega, by omega⟩
    · rw [if_neg hc, if_pos rfl, updL_at]
      refine ⟨by simp, ?_⟩
      rw [e2] at hc ⊢
      by_cases hp : part = C.cf i
      · rw [if_pos hp] at hc ⊢; simp at hc ⊢; omega
      · rw [if_neg hp] at hc ⊢; simp at hc ⊢; omega
  have e4 : recvE C L2 part i = if part = C.ct i then 0 else 8 := by
    rw [recvE_in hi]
    by_cases hp : part = C.ct i
    · rw [if_pos hp, if_pos hp, if_neg e3.1]
    · rw [if_neg hp, if_neg hp]
  have e5 : roomE C L1 i = if part = C.cf i then C.cc i - 1 else C.cc i := by
    rw [roomE_in hi, e2]
    by_cases hp : part = C.cf i
    · rw [if_pos hp, if_pos hp]; simp
    · rw [if_neg hp, if_neg hp]; simp
  have e6 : roomE C (recvL C L2 part i) i = if part = C.ct i then roomE C L2 i + 1 else roomE C L2 i := by
    rw [roomE_in hi, roomE_in hi, recvL_in hi]
    by_cases hp : part = C.ct i
    · rw [if_pos hp, if_pos hp, updL_at]
      have : 0 < (L2 i).length := by cases hL : L2 i <;> simp_all
      rw [List.length_tail]
      omega
    · rw [if_neg hp, if_neg hp]
  have e7 := roomE_in (C := C) (LL := L2) hi
  rw [e1, e4, e5, e6]
  refine ⟨?_, by have := e3.2; have : 0 < (L2 i).length := (by cases hL : L2 i <;> simp_all); omega⟩
  by_cases hp : part = C.cf i
  · have hq : part ≠ C.ct i := by rw [hp]; exact hft
    exact .inl ⟨hp, hq, by rw [if_pos hp], by rw [if_pos hp], by rw [if_neg hq], by rw [if_neg hq]⟩
  · by_cases hq : part = C.ct i
    · exact .inr (.inl ⟨hp, hq, by rw [if_neg hp], by rw [if_neg hp], by rw [if_pos hq], by rw [if_pos hq]⟩)
    · exact .inr (.inr ⟨hp, hq, by rw [if_neg hp], by rw [if_neg hp], by rw [if_neg hq], by rw [if_neg hq]⟩)
theorem checkv (C : Cfg) (pP pW pC : Option Addr) (cP cW cC : Nat) (w : World) (h : IsC w C ⟨pP, cP, pW, cW, pC, cC⟩) (hN : Big C) :
    Calls Try.prog 18 #[.agg #[.slice pP C.nP cP, .slice pW C.nW cW, .slice pC C.nC cC]] w fun e w' => e = .returned (.int .i64 (ckE C)) ∧ Below w.heap.size w w' := check_any C ⟨pP, cP, pW, cW, pC, cC⟩ w h hN
theorem framesv (C : Cfg) (pP pW pC : Option Addr) (cP cW cC : Nat) (w : World) (h : IsC w C ⟨pP, cP, pW, cW, pC, cC⟩) (hN : Big C) :
    Calls Try.prog 19 #[.agg #[.slice pP C.nP cP, .slice pW C.nW cW, .slice pC C.nC cC]] w fun e w' => e = .returned (.int .i64 (frE C)) ∧ Below w.heap.size w w' := frames_any C ⟨pP, cP, pW, cW, pC, cC⟩ w h hN
theorem newv (L : Nat) (C : Cfg) (pP pW pC : Option Addr) (cP cW cC : Nat) (mm fb nF : Nat) (w : World) (hI : IsC w C ⟨pP, cP, pW, cW, pC, cC⟩) (hN : Big C) (hm : MemS w mm fb nF (fun _ => 0)) (hF : 1 ≤ nF) (hF3 : nF ≤ 1024) (hE : CkOk C) (hF2 : frE C ≤ nF) (h1 : L ≤ mm) (h2 : L ≤ fb) :
    Calls Try.prog 12 #[.pointer (some ⟨mm, 0, none⟩), .agg #[.slice pP C.nP cP, .slice pW C.nW cW, .slice pC C.nC cC]] w fun e w' => ∃ K, e = .returned (.tuple #[.pointer (some ⟨K.X, 0, none⟩), .int .i64 0]) ∧ Sys L w' C K (fun _ => []) (fun _ => 0) ∧ (K.mm = mm ∧ K.fb = fb ∧ K.nF = nF) ∧ Below w.heap.size w w' :=
  sys_new C ⟨pP, cP, pW, cW, pC, cC⟩ mm fb nF w hI hN hm hF hF3 hE hF2 h1 h2
theorem wd1 {x : Int} (h0 : 0 ≤ x) (h1 : x < 4294967296) : ∀ i, i < [x].length → 0 ≤ [x].getD i 0 ∧ [x].getD i 0 < 4294967296 := by
  intro i hi
  match i, hi with
  | 0, _ => exact ⟨h0, h1⟩
/-- the guard of ChansEnds and ChansOrder -/
theorem ends_out (C : Cfg) (l : Lay) (ch part : Int) (w : World) (hI : IsC w C l) (h : longB C = true ∨ ¬ CkOk C ∨ ch < 0 ∨ C.nC ≤ ch) :
    Calls Try.prog 5 #[.agg (cfgV C l), .int .i64 ch, .int .i64 part] w fun e w' => e = .returned (.bool true) ∧ Below w.heap.size w w' := by
  obtain ⟨pP, cP, pW, cW, pC, cC⟩ := l
  have HLC := Lib.hid fun (W : World) => longv C pP pW pC cP cW cC W
  have HI := Lib.hid hI
  unfold cfgV
  simp only
  cases hl : longB C
  · have hN := short_big hl
    rw [hl] at HLC
    have hck := fun (W : World) (h : IsC W C ⟨pP, cP, pW, cW, pC, cC⟩) => checkv C pP pW pC cP cW cC W h hN
    have h' : (ckE C ≠ 0) ∨ (ckE C = 0 ∧ ch < 0) ∨ (ckE C = 0 ∧ ¬ ch < 0 ∧ (C.nC : Int) ≤ ch) := by
      rcases ckE_cases C with ⟨h1, h2⟩ | ⟨h1, h2⟩
      · rcases h with h | h | h | h
        · rw [hl] at h; cases h
        · exact absurd h1 h
        · omega
        · omega
      · omega
    have gN := hl
    rcases h' with k1 | ⟨k1, k2⟩ | ⟨k1, k2, k3⟩
    · obtain ⟨E, hE⟩ : ∃ E, ckE C = E := ⟨_, rfl⟩
      rw [hE] at hck k1
      have e1 : (E == 0) = false := beq_eq_false_iff_ne.2 k1
      have e2 : (E != 0) = true := by simpa using k1
      clear hE
      have HK := Lib.hid hck
      clear hck h gN hN k1 hI hl
      go_enter Try.func5, Try.ntmps5
      go_wp2_with fail
      refine (HLC.out _).mono ?_; rintro e w1 ⟨rfl, b1⟩
      have HB1 := Lib.hid (bstep (a := w) (by go_grown) b1)
      have HV := Lib.hid (show CV w1 w.heap.size C pP cP pW cW pC cC from ⟨bk_below (bk_new w _) b1, HI.out.below HB1.out⟩)
      clear b1
      obtain ⟨y0, y1, y2, y3⟩ := HV.out.cells
      go_wp2_with fail
      refine (HK.out _ HV.out.i).mono ?_; rintro e w2 ⟨rfl, b2⟩
      have HB2 := Lib.hid (bstep HB1.out b2)
      clear b2 y0 y1 y2 y3
      go_wp2_with fail
      refine (awake_any _).mono ?_; rintro e w3 ⟨rfl, b3⟩
      go_wp2
      go_ret
      exact ⟨rfl, bstep HB2.out b3⟩
    all_goals
      have d1 : decide (ch < 0) = true ∨ decide (ch < 0) = false := by cases decide (ch < 0) <;> simp
      have d2 : ch < 0 → decide (ch < 0) = true := fun h => decide_eq_true h
      have d3 : ¬ ch < 0 → decide (ch < 0) = false := fun h => decide_eq_false h
      first | (have d4 := d2 k2) | (have d4 := d3 k2; have d5 : decide ((C.nC : Int) ≤ ch) = true := decide_eq_true k3)
      clear d1 d2 d3
      rw [k1] at hck
      have HK := Lib.hid hck
      clear hck h gN hN k1 hI hl
      go_enter Try.func5, Try.ntmps5
      go_wp2_with fail
      refine (HLC.out _).mono ?_; rintro e w1 ⟨rfl, b1⟩
      have HB1 := Lib.hid (bstep (a := w) (by go_grown) b1)
      have HV := Lib.hid (show CV w1 w.heap.size C pP cP pW cW pC cC from ⟨bk_below (bk_new w _) b1, HI.out.below HB1.out⟩)
      clear b1
      obtain ⟨y0, y1, y2, y3⟩ := HV.out.cells
      go_wp2_with fail
      refine (HK.out _ HV.out.i).mono ?_; rintro e w2 ⟨rfl, b2⟩
      have HB2 := Lib.hid (bstep HB1.out b2)
      have HV2 := Lib.hid (HV.out.below b2)
      clear b2 y0 y1 y2 y3 HV
      obtain ⟨y0, y1, y2, y3⟩ := HV2.out.cells
      go_wp2_with fail
      refine (awake_any _).mono ?_; rintro e w3 ⟨rfl, b3⟩
      go_wp2
      go_ret
      exact ⟨rfl, bstep HB2.out b3⟩
  · rw [hl] at HLC
    clear h hI hl
    go_enter Try.func5, Try.ntmps5
    go_wp2_with fail
    refine (HLC.out _).mono ?_; rintro e w1 ⟨rfl, b1⟩
    have HB1 := Lib.hid (bstep (a := w) (by go_grown) b1)
    clear b1
    go_wp2_with fail
    refine (awake_any _).mono ?_; rintro e w2 ⟨rfl, b2⟩
    go_wp2
    go_ret
    exact ⟨rfl, bstep HB1.out b2⟩
set_option maxHeartbeats 4000000 in
theorem ends_in (C : Cfg) (l : Lay) (i : Nat) (part : Int) (w : World) (hI : IsC w C l) (hl : longB C = false) (hok : CkOk C) (hi : i < C.nC) :
    Calls Try.prog 5 #[.agg (cfgV C l), .int .i64 i, .int .i64 part] w fun e w' => e = .returned (.bool true) ∧ Below w.heap.size w w' := by
  obtain ⟨pP, cP, pW, cW, pC, cC⟩ := l
  have hN := short_big hl
  have HLC := Lib.hid fun (W : World) => longv C pP pW pC cP cW cC W
  have hck := fun (W : World) (h : IsC W C ⟨pP, cP, pW, cW, pC, cC⟩) => checkv C pP pW pC cP cW cC W h hN
  rw [ckE_ok hok] at hck
  rw [hl] at HLC
  obtain ⟨nF, hnF, hF1, hF2⟩ := frE_pos hok
  have hfr := fun (W : World) (h : IsC W C ⟨pP, cP, pW, cW, pC, cC⟩) => framesv C pP pW pC cP cW cC W h hN
  rw [hnF] at hfr
  have HNW := Lib.hid fun (L mm fb : Nat) (W : World) (h : IsC W C ⟨pP, cP, pW, cW, pC, cC⟩) (hm : MemS W mm fb nF (fun _ => 0)) (h1 : L ≤ mm) (h2 : L ≤ fb) => newv L C pP pW pC cP cW cC mm fb nF W h hN hm hF1 hF2 hok (by rw [hnF]; exact Int.le_refl _) h1 h2
  have HMN := Lib.hid fun (W : World) => mnew_ok nF W hF1 hF2
  have HK := Lib.hid hck
  have HFR := Lib.hid hfr
  have HI := Lib.hid hI
  obtain ⟨L1, hL1⟩ : ∃ L1, L1 = sendL C (fun _ => []) part i [5] := ⟨_, rfl⟩
  obtain ⟨L2, hL2⟩ : ∃ L2, L2 = sendL C L1 (C.cf i) i [6] := ⟨_, rfl⟩
  obtain ⟨L3, hL3⟩ : ∃ L3, L3 = recvL C L2 part i := ⟨_, rfl⟩
  have hpure := ends_pure hok hi L1 L2 hL1 hL2
  rw [← hL3] at hpure
  have hs1 := fun (L b : Nat) (K : CX) (W : World) (t : TypeId) (h : Sys L W C K (fun _ => []) (fun _ => 0)) (hb : W.heap[b]? = some (.cells #[.int .u32 5] t (0, 0))) (hf : b ≠ K.fb ∧ ∀ i, i < C.nC → b ≠ K.R i) => sys_send part i (some ⟨b, 0, none⟩) [5] 1 h (row1 hb) (wd1 (by decide) (by decide)) (fun b' o e _ => by simp only [Option.some.injEq, Addr.mk.injEq] at e; obtain ⟨rfl, _⟩ := e; exact hf)
  have hs2 := fun (L b : Nat) (K : CX) (W : World) (t : TypeId) (h : Sys L W C K L1 (fun _ => 0)) (hb : W.heap[b]? = some (.cells #[.int .u32 6] t (0, 0))) (hf : b ≠ K.fb ∧ ∀ i, i < C.nC → b ≠ K.R i) => sys_send (C.cf i) i (some ⟨b, 0, none⟩) [6] 1 h (row1 hb) (wd1 (by decide) (by decide)) (fun b' o e _ => by simp only [Option.some.injEq, Addr.mk.injEq] at e; obtain ⟨rfl, _⟩ := e; exact hf)
  have hs3 := fun (L : Nat) (K : CX) (W : World) (h : Sys L W C K L2 (fun _ => 0)) => sys_recv part i h
  have hr1 := fun (L : Nat) (K : CX) (W : World) (h : Sys L W C K L1 (fun _ => 0)) => sys_room i h
  have hr2 := fun (L : Nat) (K : CX) (W : World) (h : Sys L W C K L2 (fun _ => 0)) => sys_room i h
  have hr3 := fun (L : Nat) (K : CX) (W : World) (h : Sys L W C K L3 (fun _ => 0)) => sys_room i h
  simp only [List.length_cons, List.length_nil, Nat.zero_add] at hs1 hs2
  rw [← hL1] at hs1
  rw [← hL2] at hs2
  rw [← hL3] at hs3
  generalize sendE C (fun _ => []) part i 1 = E1 at *
  generalize roomE C L1 i = R1 at *
  generalize roomE C L2 i = R2 at *
  generalize recvE C L2 part i = E3 at *
  generalize roomE C L3 i = R3 at *
  generalize sendE C L1 (C.cf i) i 1 = E2 at *
  have HS1 := Lib.hid hs1
  have HS2 := Lib.hid hs2
  have HS3 := Lib.hid hs3
  have HR1 := Lib.hid hr1
  have HR2 := Lib.hid hr2
  have HR3 := Lib.hid hr3
  have HP := Lib.hid hpure
  clear hck hfr hI hL1 hL2 hL3 hs1 hs2 hs3 hr1 hr2 hr3 hl hpure
  have HU := Lib.hid (show cfgV C ⟨pP, cP, pW, cW, pC, cC⟩ = #[.slice pP C.nP cP, .slice pW C.nW cW, .slice pC C.nC cC] from rfl)
  rw [HU.out]
  have a0 : ¬ (i : Int) < 0 := by omega
  have a1 : ¬ (C.nC : Int) ≤ i := by omega
  have a2 : (i : Int) < C.nC := by omega
  have hn16 := hok.1.N.2.2.2.2
  clear HU hok hN hnF
  go_enter Try.func5, Try.ntmps5
  go_wp2_with fail
  refine (HLC.out _).mono ?_; rintro e w1 ⟨rfl, b1⟩
  have HB1 := Lib.hid (bstep (a := w) (by go_grown) b1)
  have HV := Lib.hid (show CV w1 w.heap.size C pP cP pW cW pC cC from ⟨bk_below (bk_new w _) b1, HI.out.below HB1.out⟩)
  clear b1
  obtain ⟨y0, y1, y2, y3⟩ := HV.out.cells
  go_wp2_with fail
  refine (HK.out _ HV.out.i).mono ?_; rintro e w2 ⟨rfl, b2⟩
  have HB2 := Lib.hid (bstep HB1.out b2)
  have HV2 := Lib.hid (HV.out.below b2)
  clear b2 y0 y1 y2 y3 HV HB1
  obtain ⟨y0, y1, y2, y3⟩ := HV2.out.cells
  go_wp2_with fail
  refine (HFR.out _ HV2.out.i).mono ?_; rintro e w3 ⟨rfl, b3⟩
  have HB3 := Lib.hid (bstep HB2.out b3)
  have HV3 := Lib.hid (HV2.out.below b3)
  clear b3 y0 y1 y2 y3 HV2 HB2
  go_wp2_with fail
  refine (HMN.out _).mono ?_; rintro e w4 ⟨mm, fb, rfl, hm, hm1, hm2, b4⟩
  have HM4 := Lib.hid hm
  have HB4 := Lib.hid (bstep HB3.out b4)
  have HV4 := Lib.hid (HV3.out.below b4)
  clear hm b4 HV3
  obtain ⟨y0, y1, y2, y3⟩ := HV4.out.cells
  go_wp2_with fail
  refine (HNW.out w3.heap.size mm fb w4 HV4.out.i HM4.out hm1 hm2).mono ?_; rintro e w5 ⟨K, rfl, hs, _, b5⟩
  have HS5 := Lib.hid hs
  have HB5 := Lib.hid (bstep HB4.out b5)
  have HV5 := Lib.hid (HV4.out.below b5)
  have HL5 := Lib.hid (show w.heap.size ≤ w3.heap.size from HB3.out.size)
  clear hs b5 HV4 y0 y1 y2 y3
  obtain ⟨y0, y1, y2, y3⟩ := HV5.out.cells
  rcases HV5.out.i.C with h0 | ⟨b, o, e7, hc⟩
  · exact absurd h0 (by show ¬ C.nC = 0; omega)
  simp only at e7
  subst e7
  obtain ⟨d0, d1, d2, d3⟩ := hc i hi
  have hbl : b < w5.heap.size := block_lt_of_cell d0
  clear hc
  go_wp2_with fail
  have HF5 := Lib.hid (HS5.out.fresh (Nat.le_refl _))
  have HKC := Lib.hid (bk_alloc (bk_new w5 (.cells #[.int .i64 (C.cf i), .int .i64 (C.ct i), .int .i64 (C.cc i), .int .i64 (C.cw i)] 53)) (.cells #[.int .u32 5] 40))
  have HG := Lib.hid (show Below w5.heap.size w5 ((w5.alloc (.cells #[.int .i64 (C.cf i), .int .i64 (C.ct i), .int .i64 (C.cc i), .int .i64 (C.cw i)] 53)).alloc (.cells #[.int .u32 5] 40)) by go_grown)
  have hn5 := bk_new (w5.alloc (.cells #[.int .i64 (C.cf i), .int .i64 (C.ct i), .int .i64 (C.cc i), .int .i64 (C.cw i)] 53)) (.cells #[.int .u32 5] 40)
  rw [World.size_alloc] at hn5
  refine (HS1.out w3.heap.size (w5.heap.size + 1) K _ _ (HS5.out.below HG.out) hn5 (HS5.out.fresh (by omega))).mono ?_
  rintro e w6 ⟨rfl, hs6, hb6, hk6⟩
  have HS6 := Lib.hid hs6
  have HB6 := Lib.hid ((bstep HB5.out HG.out).trans (hb6.mono HL5.out))
  have HK6 := Lib.hid (hk6.blk HKC.out (HF5.out.2 _ (by omega)) HF5.out.1)
  have hlt6 : w5.heap.size < w6.heap.size := bk_lt HK6.out
  clear hs6 hb6 hk6 hn5 HG HKC HS5 HV5 HB5 y0 y1 y2 y3 d0 d1 d2 d3 hbl HNW HK HFR HMN HI HLC HB4 HB3 HM4
  have q0 : w6.cell? ⟨w5.heap.size, 0, none⟩ = some (.int .i64 (C.cf i)) := (bk_cell HK6.out 0).trans rfl
  have q1 : w6.cell? ⟨w5.heap.size, 1, none⟩ = some (.int .i64 (C.ct i)) := (bk_cell HK6.out 1).trans rfl
  have q2 : w6.cell? ⟨w5.heap.size, 2, none⟩ = some (.int .i64 (C.cc i)) := (bk_cell HK6.out 2).trans rfl
  have hP := HP.out
  obtain ⟨hcase, hR1, hR2, hC1, hC2⟩ := hP
  generalize C.cf i = F at *
  generalize C.ct i = T at *
  generalize C.cc i = N at *
  have x1 : IntKind.i64.wrap (N - 1) = N - 1 := IntWalk.i64_in _ (by omega)
  have x2 : IntKind.i64.wrap (R2 + 1) = R2 + 1 := IntWalk.i64_in _ (by omega)
  clear HP
  rcases hcase with ⟨rfl, hne, rfl, e4, rfl, e6⟩ | ⟨hne, rfl, rfl, e4, rfl, e6⟩ | ⟨hne, hne2, rfl, e4, rfl, e6⟩
  all_goals
    subst R1 R3
    have f1 : (N - 1 == N) = false := beq_eq_false_iff_ne.2 (by omega)
    have f2 : (N == N - 1) = false := beq_eq_false_iff_ne.2 (by omega)
    have f3 : (N - 1 != N) = true := by rw [bne, f1]; rfl
    have f4 : (N != N - 1) = true := by rw [bne, f2]; rfl
    have f5 : ∀ x : Int, part ≠ x → (part == x) = false := fun x h => beq_eq_false_iff_ne.2 h
    have f6 : ∀ x : Int, part ≠ x → (part != x) = true := fun x h => by rw [bne, f5 x h]; rfl
    try have g1 := f5 _ hne
    try have g2 := f6 _ hne
    try have g3 := f5 _ hne2
    try have g4 := f6 _ hne2
    clear f5 f6
    go_wp2_with fail
    refine (HR1.out w3.heap.size K _ HS6.out).mono ?_; rintro e w7 ⟨rfl, b7⟩
    have HS7 := Lib.hid (HS6.out.below b7)
    have HB7 := Lib.hid (bstep HB6.out b7)
    have HK7 := Lib.hid (bk_below HK6.out b7)
    clear b7 q0 q1 q2
    have q0 := (bk_cell HK7.out 0).trans rfl
    have q1 := (bk_cell HK7.out 1).trans rfl
    have q2 := (bk_cell HK7.out 2).trans rfl
    have hn7 := bk_new w7 (.cells #[.int .u32 6] 40)
    have HF7 := Lib.hid (HS7.out.fresh (Nat.le_refl _))
    have HX7 := Lib.hid (HB7.out.alloc HB7.out.size (.cells #[.int .u32 6] 40))
    go_wp2_with fail
    refine (HS2.out w3.heap.size w7.heap.size K _ _ (HS7.out.below ((Below.refl _ _).alloc (Nat.le_refl _) _)) hn7 HF7.out).mono ?_
    rintro e w8 ⟨rfl, hs8, hb8, hk8⟩
    have HS8 := Lib.hid hs8
    have HB8 := Lib.hid (HX7.out.trans (hb8.mono HL5.out))
    have HK8 := Lib.hid (hk8.blk (bk_alloc HK7.out _) (HF5.out.2 _ (by omega)) HF5.out.1)
    clear hs8 hb8 hk8 hn7 q0 q1 q2 HS7 HB7 HX7
    have q0 := (bk_cell HK8.out 0).trans rfl
    have q1 := (bk_cell HK8.out 1).trans rfl
    have q2 := (bk_cell HK8.out 2).trans rfl
    go_wp2_with fail
    refine (HR2.out w3.heap.size K _ HS8.out).mono ?_; rintro e w9 ⟨rfl, b9⟩
    have HS9 := Lib.hid (HS8.out.below b9)
    have HB9 := Lib.hid (bstep HB8.out b9)
    have HK9 := Lib.hid (bk_below HK8.out b9)
    clear b9 q0 q1 q2 HS8 HB8 HK8
    have q0 := (bk_cell HK9.out 0).trans rfl
    have q1 := (bk_cell HK9.out 1).trans rfl
    have q2 := (bk_cell HK9.out 2).trans rfl
    go_wp2_with fail
    refine (HS3.out w3.heap.size K _ HS9.out).mono ?_; rintro e w10 ⟨v, rfl, _, hs10, hb10, hk10⟩
    have HS10 := Lib.hid hs10
    have HB10 := Lib.hid (HB9.out.trans (hb10.mono HL5.out))
    have HK10 := Lib.hid (hk10.blk HK9.out (HF5.out.2 _ (by omega)) HF5.out.1)
    clear hs10 hb10 hk10 q0 q1 q2 HS9 HB9 HK9
    have q0 := (bk_cell HK10.out 0).trans rfl
    have q1 := (bk_cell HK10.out 1).trans rfl
    have q2 := (bk_cell HK10.out 2).trans rfl
    go_wp2_with fail
    refine (HR3.out w3.heap.size K _ HS10.out).mono ?_; rintro e w11 ⟨rfl, b11⟩
    have HB11 := Lib.hid (bstep HB10.out b11)
    have HK11 := Lib.hid (bk_below HK10.out b11)
    clear b11 q0 q1 q2 HS10 HB10 HK10
    have q0 := (bk_cell HK11.out 0).trans rfl
    have q1 := (bk_cell HK11.out 1).trans rfl
    have q2 := (bk_cell HK11.out 2).trans rfl
    go_wp2_with fail
    refine (awake_any _).mono ?_; rintro e w12 ⟨rfl, b12⟩
    go_wp2
    go_ret
    exact ⟨by first | rfl | simp, bstep HB11.out b12⟩
theorem ChansEnds_any (C : Cfg) (l : Lay) (ch part : Int) (w : World) (hI : IsC w C l) :
    Calls Try.prog 5 #[.agg (cfgV C l), .int .i64 ch, .int .i64 part] w fun e w' => e = .returned (.bool true) ∧ Below w.heap.size w w' := by
  by_cases h : longB C = true ∨ ¬ CkOk C ∨ ch < 0 ∨ C.nC ≤ ch
  · exact ends_out C l ch part w hI h
  · obtain ⟨i, rfl⟩ : ∃ i : Nat, ch = i := ⟨ch.toNat, by omega⟩
    exact ends_in C l i part w hI (by cases hl : longB C <;> simp_all) (by exact Classical.byContradiction fun h' => h (.inr (.inl h'))) (by omega)
end Go.Proofs.Ytofkgceenppdbaa
