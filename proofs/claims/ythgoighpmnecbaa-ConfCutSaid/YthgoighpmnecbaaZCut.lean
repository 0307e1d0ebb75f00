/- Helper text of this seat (ZCut): contracts of functions of the given program and of its references, and the laws' plain parts, each told by its theorem. Conditions: as each theorem names them. -/
import Derived.Test.YthgoighpmnecbaaZPut
namespace Go.Proofs.Ythgoighpmnecbaa
open Go.RowKit
set_option linter.unusedVariables false
set_option linter.unusedSimpArgs false
/-- where too much comes in -/
theorem cut_long (C : Cfg) (l : Lay) (n : Int) (m : ByteArray) (w : World) (hm : m.size ≤ 140737488351232) (h : longB C = true ∨ 100 < m.size) :
    Calls Try.prog 6 #[.agg (cfgV C l), .int .i64 n, .string m] w fun e w' => e = .returned (.bool true) ∧ Below w.heap.size w w' := by
  obtain ⟨pP, cP, pW, cW, pC, cC⟩ := l
  have HLC := Lib.hid fun (W : World) => longv (C := C) (p := pP) (q := pW) (r := pC) (c := cP) (d := cW) (k := cC) (w := W)
  have HU := Lib.hid (show cfgV C ⟨pP, cP, pW, cW, pC, cC⟩ = #[.slice pP C.nP cP, .slice pW C.nW cW, .slice pC C.nC cC] from rfl)
  rw [HU.out]
  clear HU
  cases hlC : longB C with
  | true =>
    rw [hlC] at HLC
    clear hlC h
    go_enter Try.func6, Try.ntmps6
    go_wp2_with fail
    refine (HLC.out _).mono ?_; rintro e w1 ⟨rfl, b1⟩
    have HB1 := Lib.hid (bstep (a := w) (by go_grown) b1)
    clear b1
    go_wp2_with fail
    refine (awake_any _).mono ?_; rintro e w2 ⟨rfl, b2⟩
    go_wp2
    go_ret
    exact ⟨rfl, bstep HB1.out b2⟩
  | false =>
    rw [hlC] at HLC h
    have hm2 : (100 : Int) < m.size := by rcases h with h | h; · cases h
                                          · omega
    clear hlC h
    go_enter Try.func6, Try.ntmps6
    go_wp2_with fail
    refine (HLC.out _).mono ?_; rintro e w1 ⟨rfl, b1⟩
    have HB1 := Lib.hid (bstep (a := w) (by go_grown) b1)
    clear b1
    go_wp2_with fail
    refine (awake_any _).mono ?_; rintro e w2 ⟨rfl, b2⟩
    go_wp2
    go_ret
    exact ⟨rfl, bstep HB1.out b2⟩
/-- where the configuration may not be -/
theorem cut_bad (C : Cfg) (l : Lay) (n : Int) (m : ByteArray) (w : World) (hI : IsC w C l) (hl : longB C = false) (hm : m.size ≤ 100) (hok : ¬ CkOk C) :
    Calls Try.prog 6 #[.agg (cfgV C l), .int .i64 n, .string m] w fun e w' => e = .returned (.bool true) ∧ Below w.heap.size w w' := by
  obtain ⟨pP, cP, pW, cW, pC, cC⟩ := l
  have hNC := short_hN hl
  have HI := Lib.hid hI
  have HLC := Lib.hid fun (W : World) => longv (C := C) (p := pP) (q := pW) (r := pC) (c := cP) (d := cW) (k := cC) (w := W)
  have HP := Lib.hid fun (W : World) (h : IsC W C ⟨pP, cP, pW, cW, pC, cC⟩) => putv h hNC
  have HU := Lib.hid (show cfgV C ⟨pP, cP, pW, cW, pC, cC⟩ = #[.slice pP C.nP cP, .slice pW C.nW cW, .slice pC C.nC cC] from rfl)
  rw [HU.out]
  rw [hl] at HLC
  have hS : putS C = ⟨#[]⟩ := if_neg hok
  have he : ckE C ≠ 0 := fun h => hok (ckE_zero h)
  rw [hS] at HP
  clear HU hI hl hNC hok hS
  generalize ckE C = E at *
  have e1 : (E != 0) = true := by simpa using he
  have e2 : (E == 0) = false := by simpa using he
  have hm2 : ¬ (100 : Int) < m.size := by omega
  clear he hm
  go_enter Try.func6, Try.ntmps6
  go_wp2_with fail
  refine (HLC.out _).mono ?_; rintro e w1 ⟨rfl, b1⟩
  have HB1 := Lib.hid (bstep (a := w) (by go_grown) b1)
  have HV := Lib.hid (show CV w1 w.heap.size C pP cP pW cW pC cC from ⟨bk_below (bk_new w _) b1, HI.out.below HB1.out⟩)
  clear b1
  obtain ⟨y0, y1, y2, y3⟩ := HV.out.cells
  go_wp2_with fail
  refine (HP.out _ HV.out.i).mono ?_; rintro e w2 ⟨rfl, b2⟩
  have HB2 := Lib.hid (bstep HB1.out b2)
  clear b2 y0 y1 y2 y3
  go_wp2_with fail
  refine (awake_any _).mono ?_; rintro e w3 ⟨rfl, b3⟩
  go_wp2
  go_ret
  exact ⟨by simp, bstep HB2.out b3⟩
set_option maxHeartbeats 2000000 in
theorem cut_good (C : Cfg) (l : Lay) (n : Int) (m : ByteArray) (w : World) (hI : IsC w C l) (hl : longB C = false) (hm : m.size ≤ 100) (hok : CkOk C) (K : Nat) (hK : K < (confS C).size)
    (hc : n.tmod (confS C).size = K ∨ (n.tmod (confS C).size < 0 ∧ n.tmod (confS C).size + (confS C).size = K)) :
    Calls Try.prog 6 #[.agg (cfgV C l), .int .i64 n, .string m] w fun e w' => e = .returned (.bool true) ∧ Below w.heap.size w w' := by
  obtain ⟨pP, cP, pW, cW, pC, cC⟩ := l
  have hNC := short_hN hl
  have HI := Lib.hid hI
  have HLC := Lib.hid fun (W : World) => longv (C := C) (p := pP) (q := pW) (r := pC) (c := cP) (d := cW) (k := cC) (w := W)
  have hput := fun (W : World) (h : IsC W C ⟨pP, cP, pW, cW, pC, cC⟩) => putv h hNC
  have HU := Lib.hid (show cfgV C ⟨pP, cP, pW, cW, pC, cC⟩ = #[.slice pP C.nP cP, .slice pW C.nW cW, .slice pC C.nC cC] from rfl)
  rw [HU.out]
  rw [hl] at HLC
  rw [show putS C = confS C from if_pos hok, ckE_ok hok] at hput
  have HP := Lib.hid hput
  have hsz := confS_size hok.1
  have hN := hok.1.N
  have hcut := put_cut hok.1 hK
  have hmore := fun (h : m.size ≠ 0) => put_more (r := m) hok.1 h
  have hg1 := fun (W : World) => getv (w := W) ((confS C).extract 0 K) (by rw [ByteArray.size_extract]; omega)
  have hg2 := fun (W : World) => getv (w := W) (confS C ++ m) (by rw [ByteArray.size_append]; omega)
  rw [hcut] at hg1
  have HG1 := Lib.hid hg1
  generalize confS C = S at *
  clear HU hI hl hok hcut hput hg1
  obtain ⟨h6, h200⟩ : 6 ≤ S.size ∧ S.size ≤ 200 := by omega
  clear hsz hN
  have hs4 : ¬ (S.size : Int) < 4 := by omega
  have hs0 : (S.size : Int) ≠ 0 := by omega
  have hm2 : ¬ (100 : Int) < m.size := by omega
  have hcat : ((S.size : Int) + m.size) ≤ 9223372036854775807 := by omega
  have hcat2 : ¬ 9223372036854775807 < S.size + m.size := by omega
  have hK2 : (K : Int) ≤ S.size := by omega
  have hme : m.size = 0 ∨ m.size ≠ 0 := by omega
  have HMO := Lib.hid hmore
  clear hmore
  have hK0 : (0 : Int) ≤ K := by omega
  have hkn : ¬ (K : Int) < 0 := by omega
  have hcw : n.tmod S.size = K ∨ (n.tmod S.size < 0 ∧ wrap64 (n.tmod S.size + S.size) = K) := by
    rcases hc with h | ⟨h1, h2⟩
    · exact .inl h
    · exact .inr ⟨h1, by unfold wrap64; omega⟩
  clear hc
  rcases hcw with hc | ⟨hc1, hc2⟩
  all_goals
    rcases hme with hme | hme
    · have hme0 : m = ⟨#[]⟩ := by
        apply ByteArray.ext
        apply Array.toList_inj.1
        have : m.data.toList.length = 0 := by rw [Array.length_toList]; exact hme
        exact List.length_eq_zero_iff.1 this
      subst hme0
      have HG2 := Lib.hid hg2
      clear hg2 HMO hme
      go_enter Try.func6, Try.ntmps6
      go_wp2_with fail
      refine (HLC.out _).mono ?_; rintro e w1 ⟨rfl, b1⟩
      have HB1 := Lib.hid (bstep (a := w) (by go_grown) b1)
      have HV := Lib.hid (show CV w1 w.heap.size C pP cP pW cW pC cC from ⟨bk_below (bk_new w _) b1, HI.out.below HB1.out⟩)
      clear b1
      obtain ⟨y0, y1, y2, y3⟩ := HV.out.cells
      go_wp2_with fail
      refine (HP.out _ HV.out.i).mono ?_; rintro e w2 ⟨rfl, b2⟩
      have HB2 := Lib.hid (bstep HB1.out b2)
      clear b2 y0 y1 y2 y3
      go_wp2_with fail
      refine (HG1.out _).mono ?_; rintro e w3 ⟨p, c, q, d, r, k, rfl, _, b3⟩
      have HB3 := Lib.hid (bstep HB2.out b3)
      clear b3
      go_wp2_with fail
      refine (HG2.out _).mono ?_; rintro e w4 ⟨p', c', q', d', r', k', rfl, _, b4⟩
      have HB4 := Lib.hid (bstep (HB3.out.alloc HB3.out.size _) b4)
      clear b4
      go_wp2_with fail
      refine (awake_any _).mono ?_; rintro e w5 ⟨rfl, b5⟩
      go_wp2
      go_ret
      exact ⟨by simp, bstep (HB4.out.alloc HB4.out.size _) b5⟩
    · have hm3 : ¬ m.toList = [] := by
        rw [ByteArray.toList_eq]
        intro h
        have := congrArg List.length h
        rw [Array.length_toList] at this
        exact hme this
      have hm4 : (m.toList == []) = false := beq_eq_false_iff_ne.2 hm3
      simp only [HMO.out hme] at hg2
      have HG2 := Lib.hid hg2
      clear hg2 HMO hme
      go_enter Try.func6, Try.ntmps6
      go_wp2_with fail
      refine (HLC.out _).mono ?_; rintro e w1 ⟨rfl, b1⟩
      have HB1 := Lib.hid (bstep (a := w) (by go_grown) b1)
      have HV := Lib.hid (show CV w1 w.heap.size C pP cP pW cW pC cC from ⟨bk_below (bk_new w _) b1, HI.out.below HB1.out⟩)
      clear b1
      obtain ⟨y0, y1, y2, y3⟩ := HV.out.cells
      go_wp2_with fail
      refine (HP.out _ HV.out.i).mono ?_; rintro e w2 ⟨rfl, b2⟩
      have HB2 := Lib.hid (bstep HB1.out b2)
      clear b2 y0 y1 y2 y3
      go_wp2_with fail
      refine (HG1.out _).mono ?_; rintro e w3 ⟨p, c, q, d, r, k, rfl, _, b3⟩
      have HB3 := Lib.hid (bstep HB2.out b3)
      clear b3
      go_wp2_with fail
      refine (HG2.out _).mono ?_; rintro e w4 ⟨p', c', q', d', r', k', rfl, _, b4⟩
      have HB4 := Lib.hid (bstep (HB3.out.alloc HB3.out.size _) b4)
      clear b4
      go_wp2_with fail
      refine (awake_any _).mono ?_; rintro e w5 ⟨rfl, b5⟩
      go_wp2
      go_ret
      exact ⟨by simp, bstep (HB4.out.alloc HB4.out.size _) b5⟩
theorem ConfCut_any (C : Cfg) (l : Lay) (n : Int) (m : ByteArray) (w : World) (hI : IsC w C l) (hm : m.size ≤ 140737488351232) :
    Calls Try.prog 6 #[.agg (cfgV C l), .int .i64 n, .string m] w fun e w' => e = .returned (.bool true) ∧ Below w.heap.size w w' := by
  by_cases h : longB C = true ∨ 100 < m.size
  · exact cut_long C l n m w hm h
  · have hl : longB C = false := by
      cases hb : longB C with
      | false => rfl
      | true => exact absurd (.inl hb) h
    have hm1 : m.size ≤ 100 := by
      by_cases g : m.size ≤ 100
      · exact g
      · exact absurd (.inr (by omega)) h
    by_cases hok : CkOk C
    · have hsz := confS_size hok.1
      have hs0 : 0 < (confS C).size := by omega
      have h1 := Int.tmod_lt_of_pos n (show (0 : Int) < (confS C).size by omega)
      by_cases h0 : 0 ≤ n.tmod (confS C).size
      · exact cut_good C l n m w hI hl hm1 hok (n.tmod (confS C).size).toNat (by omega) (.inl (by omega))
      · have h2 : -((confS C).size : Int) < n.tmod (confS C).size := Int.lt_tmod_of_pos n (by omega)
        exact cut_good C l n m w hI hl hm1 hok (n.tmod (confS C).size + (confS C).size).toNat (by omega) (.inr ⟨by omega, by omega⟩)
    · exact cut_bad C l n m w hI hl hm1 hok
end Go.Proofs.Ythgoighpmnecbaa
