/- The reference's Own, Traps and Chan. -/
import Derived.Test.YtofkgceenppdbaaRConf2
import Derived.Test.YtofkgceenppdbaaPlanF
import Derived.StillTailTactics
namespace Go.Proofs.Ytofkgceenppdbaa
open Go.RowKit
set_option linter.unusedVariables false
set_option linter.unusedSimpArgs false
theorem own_out {C : Cfg} {p : Int} (hok : CkOk C) (h : ¬ (0 ≤ p ∧ p < C.nP)) : ownA C p = 0 ∧ ownB C p = 0 ∧ ownE C p = 2 ∧ trA C p = 0 ∧ trB C p = 0 := by
  unfold ownA ownB ownE trA trB
  rw [if_neg (fun h' => h h'.2), if_neg (fun h' => h h'.2), if_pos hok, if_neg h, if_neg (fun h' => h h'.2), if_neg (fun h' => h h'.2)]
  exact ⟨rfl, rfl, rfl, rfl, rfl⟩
theorem own_in {C : Cfg} {i : Nat} (hok : CkOk C) (h : i < C.nP) : ownA C i = sumF (fP C) i ∧ ownB C i = C.q i ∧ ownE C i = 0 ∧ trA C i = sumF (fP C) i + C.q i ∧ trB C i = (C.s i + 2) / 3 := by
  have hc : (0 : Int) ≤ (i : Int) ∧ (i : Int) < C.nP := by omega
  unfold ownA ownB ownE trA trB
  rw [if_pos ⟨hok, hc⟩, if_pos ⟨hok, hc⟩, if_pos hok, if_pos hc, if_pos ⟨hok, hc⟩, if_pos ⟨hok, hc⟩, Int.toNat_natCast]
  exact ⟨rfl, rfl, rfl, rfl, rfl⟩
theorem chan_out {C : Cfg} {p : Int} (hok : CkOk C) (h : ¬ (0 ≤ p ∧ p < C.nC)) : chA C p = 0 ∧ chB C p = 0 ∧ chE C p = 2 := by
  unfold chA chB chE
  rw [if_neg (fun h' => h h'.2), if_neg (fun h' => h h'.2), if_pos hok, if_neg h]
  exact ⟨rfl, rfl, rfl⟩
theorem chan_in {C : Cfg} {i : Nat} (hok : CkOk C) (h : i < C.nC) : chA C i = sumF (fP C) C.nP + sumF (fC C) i ∧ chB C i = fC C i ∧ chE C i = 0 := by
  have hc : (0 : Int) ≤ (i : Int) ∧ (i : Int) < C.nC := by omega
  unfold chA chB chE
  rw [if_pos ⟨hok, hc⟩, if_pos ⟨hok, hc⟩, if_pos hok, if_pos hc, Int.toNat_natCast]
  exact ⟨rfl, rfl, rfl⟩
theorem ckE_ne' {C : Cfg} (h : ¬ CkOk C) : (ckE C == 0) = false := beq_eq_false_iff_ne.2 (by rcases ckE_cases C with ⟨h', _⟩ | ⟨_, h' | h'⟩ <;> first | exact absurd h' h | omega)
set_option maxHeartbeats 4000000 in
theorem rown_any (C : Cfg) (l : Lay) (p : Int) (w : World) (h : IsC w C l) (hN : Big C) :
    Calls Try.prog 68 #[.agg (cfgV C l), .int .i64 p] w fun e w' => e = .returned (.tuple #[.int .i64 (ownA C p), .int .i64 (ownB C p), .int .i64 (ownE C p)]) ∧ Below w.heap.size w w' := by
  have hck := fun (W : World) (h : IsC W C l) => rcheck_any C l W h hN
  have HI := Lib.hid h
  clear h hN
  obtain ⟨pP, cP, pW, cW, pC, cC⟩ := l
  unfold cfgV at *
  simp only at *
  by_cases hok : CkOk C
  case neg =>
    have hne := ckE_ne' hok
    obtain ⟨e1, e2, e3, _⟩ := own_bad hok p
    rw [e1, e2, e3]
    clear e1 e2 e3
    generalize ckE C = er at *
    have HCK := Lib.hid hck
    clear hck hok
    go_enter Try.func68, Try.ntmps68
    go_wp2_with fail
    refine (HCK.out _ (by exact HI.out.below (by go_grown))).mono ?_; rintro e w1 ⟨rfl, hb⟩
    go_wp2
    go_ret3
    exact ⟨rfl, bstep (by go_grown) hb⟩
  case pos =>
  rw [ckE_ok hok] at hck
  have HCK := Lib.hid hck
  have HOK := Lib.hid hok
  have hNN := hok.1.N
  by_cases hc : 0 ≤ p ∧ p < C.nP
  case neg =>
    obtain ⟨e1, e2, e3, _⟩ := own_out hok hc
    rw [e1, e2, e3]
    clear e1 e2 e3 hok hck
    have hc' : p < 0 ∨ (¬ p < 0 ∧ (C.nP : Int) ≤ p) := by omega
    clear hc
    rcases hc' with k1 | ⟨k1, k2⟩
    all_goals
      go_enter Try.func68, Try.ntmps68
      go_wp2_with fail
      refine (HCK.out _ (by exact HI.out.below (by go_grown))).mono ?_; rintro e w1 ⟨rfl, hb⟩
      have hB1 : Below w.heap.size w w1 := bstep (by go_grown) hb
      have hv0 : w1.heap[w.heap.size]? = some (.cells #[.slice pP C.nP cP, .slice pW C.nW cW, .slice pC C.nC cC] 26 (0, 0)) := bk_below (bk_new w _) hb
      have HB1 := Lib.hid hB1
      have c0 : w1.cell? ⟨w.heap.size, 0, none⟩ = some (.slice pP C.nP cP) := (bk_cell hv0 0).trans rfl
      clear hb hB1 hv0
      go_wp2
      go_ret3
      exact ⟨rfl, HB1.out⟩
  case pos =>
  obtain ⟨i, rfl⟩ : ∃ i : Nat, p = i := ⟨p.toNat, by omega⟩
  have hi : i < C.nP := by omega
  obtain ⟨e1, e2, e3, _⟩ := own_in hok hi
  rw [e1, e2, e3]
  clear e1 e2 e3 hck hok hc
  have k1 : ¬ (i : Int) < 0 := by omega
  have k2 : ¬ (C.nP : Int) ≤ i := by omega
  have k3 : (i : Int) < C.nP := by omega
  have k4 : (0 : Int) ≤ (i : Int) := by omega
  go_enter Try.func68, Try.ntmps68
  go_wp2_with fail
  refine (HCK.out _ (by exact HI.out.below (by go_grown))).mono ?_; rintro e w1 ⟨rfl, hb⟩
  have hB1 : Below w.heap.size w w1 := bstep (by go_grown) hb
  have hv0 : w1.heap[w.heap.size]? = some (.cells #[.slice pP C.nP cP, .slice pW C.nW cW, .slice pC C.nC cC] 26 (0, 0)) := bk_below (bk_new w _) hb
  have HI1 := Lib.hid (HI.out.below hB1)
  have HB1 := Lib.hid hB1
  have HC0 := Lib.hid (show w1.cell? ⟨w.heap.size, 0, none⟩ = some (.slice pP C.nP cP) from (bk_cell hv0 0).trans rfl)
  have c0 := HC0.out
  clear hb hB1 hv0
  go_wp2_with fail
  clear c0
  go_loopw [8, 9] (fun v n W' => ∃ k : Nat, k ≤ i ∧ n = .int .i64 k ∧ v = .int .i64 (sumF (fP C) k) ∧ Below w1.heap.size w1 W') (fun _ n _ => C.nP - (intOf n).toNat)
  case atStart => exact ⟨0, by omega, rfl, rfl, Below.refl _ _⟩
  case round =>
    obtain ⟨k, hk, rfl, rfl, hb⟩ := hrel
    have HBk := Lib.hid hb
    have hz := hb.size
    have hsum := HOK.out.1.sumP (k := k) (by omega)
    have c0 := keepc hb HC0.out
    clear hb
    rcases HI1.out.P with h0 | ⟨b, o, e5, hc⟩
    · omega
    simp only at e5
    subst e5
    by_cases hkn : k < i
    · have hkn' : (k : Int) < i := by omega
      have hkn2 : (k : Int) < C.nP := by omega
      have hk0 : (0 : Int) ≤ (k : Int) := by omega
      have hbd := HOK.out.1.P (i := k) (by omega)
      have x0 := keepc HBk.out (hc k (by omega)).1
      have x1 := keepc HBk.out (hc k (by omega)).2
      have HST := Lib.hid (show sumF (fP C) (k + 1) = sumF (fP C) k + fP C k from rfl)
      have HFP := Lib.hid (show fP C k = C.q k + (C.s k + 2) / 3 from rfl)
      generalize sumF (fP C) k = sm at *
      generalize C.q k = qk at *
      generalize C.s k = sk at *
      have s1 : IntKind.i64.wrap (sm + qk) = sm + qk := IntWalk.i64_in _ (by omega)
      have s2 : IntKind.i64.wrap (sm + qk + (sk + 2) / 3) = sm + qk + (sk + 2) / 3 := IntWalk.i64_in _ (by omega)
      clear hc
      go_wp2_with fail
      go_quiet ((go_at_call 47; exact Calls.quiet_of_same (up3_any _ _ (by omega) (by omega))))
      go_wp2
      refine ⟨⟨k + 1, by omega, by go_num, by rw [HST.out, HFP.out, Int.add_assoc], bdrewN HBk.out _⟩, by simp [intOf]; omega⟩
    · have hkn' : ¬ (k : Int) < i := by omega
      obtain rfl : k = i := by omega
      have x0 := keepc HBk.out (hc k hi).1
      clear hc
      go_wp2_with fail
      go_quiet (fail)
      go_wp2
      go_ret3
      exact ⟨rfl, bstep HB1.out (bdrewN HBk.out _)⟩
set_option maxHeartbeats 2000000 in
theorem rtraps_any (C : Cfg) (l : Lay) (p : Int) (w : World) (h : IsC w C l) (hN : Big C) :
    Calls Try.prog 58 #[.agg (cfgV C l), .int .i64 p] w fun e w' => e = .returned (.tuple #[.int .i64 (trA C p), .int .i64 (trB C p), .int .i64 (ownE C p)]) ∧ Below w.heap.size w w' := by
  have hck := fun (W : World) (h : IsC W C l) => rown_any C l p W h hN
  have HI := Lib.hid h
  clear h hN
  obtain ⟨pP, cP, pW, cW, pC, cC⟩ := l
  unfold cfgV at *
  simp only at *
  by_cases hok : CkOk C
  case neg =>
    have hne := ckE_ne' hok
    obtain ⟨e1, e2, e3, e4, e5, _⟩ := own_bad hok p
    rw [e1, e2, e3] at hck
    rw [e3, e4, e5]
    clear e1 e2 e3 e4 e5
    generalize ckE C = er at *
    have HCK := Lib.hid hck
    clear hck hok
    go_enter Try.func58, Try.ntmps58
    go_wp2_with fail
    refine (HCK.out _ (by exact HI.out.below (by go_grown))).mono ?_; rintro e w1 ⟨rfl, hb⟩
    go_wp2
    go_ret3
    exact ⟨rfl, bstep (by go_grown) hb⟩
  case pos =>
  by_cases hc : 0 ≤ p ∧ p < C.nP
  case neg =>
    obtain ⟨e1, e2, e3, e4, e5⟩ := own_out hok hc
    rw [e1, e2, e3] at hck
    rw [e3, e4, e5]
    clear e1 e2 e3 e4 e5 hok
    have HCK := Lib.hid hck
    clear hck hc
    go_enter Try.func58, Try.ntmps58
    go_wp2_with fail
    refine (HCK.out _ (by exact HI.out.below (by go_grown))).mono ?_; rintro e w1 ⟨rfl, hb⟩
    go_wp2
    go_ret3
    exact ⟨rfl, bstep (by go_grown) hb⟩
  case pos =>
  obtain ⟨i, rfl⟩ : ∃ i : Nat, p = i := ⟨p.toNat, by omega⟩
  have hi : i < C.nP := by omega
  obtain ⟨e1, e2, e3, e4, e5⟩ := own_in hok hi
  have hsum := hok.1.sumP (k := i) (by omega)
  have hbd := hok.1.P hi
  rw [e1, e2, e3] at hck
  rw [e3, e4, e5]
  clear e1 e2 e3 e4 e5 hok hc
  have HCK := Lib.hid hck
  clear hck
  have k3 : (i : Int) < C.nP := by omega
  have k4 : (0 : Int) ≤ (i : Int) := by omega
  have s1 : IntKind.i64.wrap (sumF (fP C) i + C.q i) = sumF (fP C) i + C.q i := IntWalk.i64_in _ (by omega)
  go_enter Try.func58, Try.ntmps58
  go_wp2_with fail
  refine (HCK.out _ (by exact HI.out.below (by go_grown))).mono ?_; rintro e w1 ⟨rfl, hb⟩
  have hB1 : Below w.heap.size w w1 := bstep (by go_grown) hb
  have hv0 : w1.heap[w.heap.size]? = some (.cells #[.slice pP C.nP cP, .slice pW C.nW cW, .slice pC C.nC cC] 26 (0, 0)) := bk_below (bk_new w _) hb
  have HB1 := Lib.hid hB1
  have c0 : w1.cell? ⟨w.heap.size, 0, none⟩ = some (.slice pP C.nP cP) := (bk_cell hv0 0).trans rfl
  rcases (HI.out.below hB1).P with h0 | ⟨b, o, e5, hcc⟩
  · omega
  simp only at e5
  subst e5
  have x1 := (hcc i hi).2
  clear hb hB1 hv0 hcc
  go_wp2_with fail
  refine (up3_any (C.s i) _ (by omega) (by omega)).mono ?_
  rintro e w2 ⟨rfl, rfl⟩
  go_wp2
  go_ret3
  exact ⟨rfl, HB1.out⟩
set_option maxHeartbeats 4000000 in
theorem rchan_any (C : Cfg) (l : Lay) (p : Int) (w : World) (h : IsC w C l) (hN : Big C) :
    Calls Try.prog 40 #[.agg (cfgV C l), .int .i64 p] w fun e w' => e = .returned (.tuple #[.int .i64 (chA C p), .int .i64 (chB C p), .int .i64 (chE C p)]) ∧ Below w.heap.size w w' := by
  have hck := fun (W : World) (h : IsC W C l) => rcheck_any C l W h hN
  have htr := fun (W : World) (p : Int) (h : IsC W C l) => rtraps_any C l p W h hN
  have HI := Lib.hid h
  clear h hN
  obtain ⟨pP, cP, pW, cW, pC, cC⟩ := l
  unfold cfgV at *
  simp only at *
  by_cases hok : CkOk C
  case neg =>
    have hne := ckE_ne' hok
    obtain ⟨_, _, _, _, _, e1, e2, e3⟩ := own_bad hok p
    rw [e1, e2, e3]
    clear e1 e2 e3
    generalize ckE C = er at *
    have HCK := Lib.hid hck
    clear hck hok
    go_enter Try.func40, Try.ntmps40
    go_wp2_with fail
    refine (HCK.out _ (by exact HI.out.below (by go_grown))).mono ?_; rintro e w1 ⟨rfl, hb⟩
    go_wp2
    go_ret3
    exact ⟨rfl, bstep (by go_grown) hb⟩
  case pos =>
  rw [ckE_ok hok] at hck
  have HCK := Lib.hid hck
  have HOK := Lib.hid hok
  have hNN := hok.1.N
  by_cases hc : 0 ≤ p ∧ p < C.nC
  case neg =>
    obtain ⟨e1, e2, e3⟩ := chan_out hok hc
    rw [e1, e2, e3]
    clear e1 e2 e3 hok hck
    have hc' : p < 0 ∨ (¬ p < 0 ∧ (C.nC : Int) ≤ p) := by omega
    clear hc
    rcases hc' with k1 | ⟨k1, k2⟩
    all_goals
      go_enter Try.func40, Try.ntmps40
      go_wp2_with fail
      refine (HCK.out _ (by exact HI.out.below (by go_grown))).mono ?_; rintro e w1 ⟨rfl, hb⟩
      have hB1 : Below w.heap.size w w1 := bstep (by go_grown) hb
      have hv0 : w1.heap[w.heap.size]? = some (.cells #[.slice pP C.nP cP, .slice pW C.nW cW, .slice pC C.nC cC] 26 (0, 0)) := bk_below (bk_new w _) hb
      have HB1 := Lib.hid hB1
      have c0 : w1.cell? ⟨w.heap.size, 2, none⟩ = some (.slice pC C.nC cC) := (bk_cell hv0 2).trans rfl
      clear hb hB1 hv0
      go_wp2
      go_ret3
      exact ⟨rfl, HB1.out⟩
  case pos =>
  obtain ⟨i, rfl⟩ : ∃ i : Nat, p = i := ⟨p.toNat, by omega⟩
  have hi : i < C.nC := by omega
  obtain ⟨e1, e2, e3⟩ := chan_in hok hi
  obtain ⟨_, _, d3, d1, d2⟩ := own_in (i := C.nP - 1) hok (by omega)
  have hcast : ((C.nP - 1 : Nat) : Int) = (C.nP : Int) - 1 := by omega
  have hsp := hok.1.sumP (Nat.le_refl C.nP)
  have hlast := hok.1.P (i := C.nP - 1) (by omega)
  have hsum : sumF (fP C) (C.nP - 1) + C.q (C.nP - 1) + (C.s (C.nP - 1) + 2) / 3 = sumF (fP C) C.nP := by
    have e : sumF (fP C) (C.nP - 1 + 1) = sumF (fP C) (C.nP - 1) + (C.q (C.nP - 1) + (C.s (C.nP - 1) + 2) / 3) := rfl
    rw [show C.nP - 1 + 1 = C.nP by omega] at e
    omega
  have htr2 := fun (W : World) (h : IsC W C ⟨pP, cP, pW, cW, pC, cC⟩) => htr W ((C.nP - 1 : Nat) : Int) h
  rw [d1, d2, d3, hcast] at htr2
  have HTR := Lib.hid htr2
  have hs0 := hok.1.sumP (k := C.nP - 1) (by omega)
  rw [e1, e2, e3]
  generalize sumF (fP C) (C.nP - 1) + C.q (C.nP - 1) = ta at *
  generalize (C.s (C.nP - 1) + 2) / 3 = tb at *
  have s0 : IntKind.i64.wrap (ta + tb) = sumF (fP C) C.nP := by rw [hsum]; exact IntWalk.i64_in _ (by omega)
  clear e1 e2 e3 hck hok hc d1 d2 d3 htr htr2 hcast hlast hsum hs0
  obtain ⟨sp, hsp2⟩ : ∃ sp, sumF (fP C) C.nP = sp := ⟨_, rfl⟩
  rw [hsp2] at s0 hsp ⊢
  clear hsp2
  have k1 : ¬ (i : Int) < 0 := by omega
  have k2 : ¬ (C.nC : Int) ≤ i := by omega
  have k3 : (i : Int) < C.nC := by omega
  have k4 : (0 : Int) ≤ (i : Int) := by omega
  have s1 : IntKind.i64.wrap ((C.nP : Int) - 1) = (C.nP : Int) - 1 := IntWalk.i64_in _ (by omega)
  go_enter Try.func40, Try.ntmps40
  go_wp2_with fail
  refine (HCK.out _ (by exact HI.out.below (by go_grown))).mono ?_; rintro e w1 ⟨rfl, hb⟩
  have hB1 : Below w.heap.size w w1 := bstep (by go_grown) hb
  have hv0 : w1.heap[w.heap.size]? = some (.cells #[.slice pP C.nP cP, .slice pW C.nW cW, .slice pC C.nC cC] 26 (0, 0)) := bk_below (bk_new w _) hb
  have HI1 := Lib.hid (HI.out.below hB1)
  have HB1 := Lib.hid hB1
  have HV0 := Lib.hid hv0
  have c0 : w1.cell? ⟨w.heap.size, 0, none⟩ = some (.slice pP C.nP cP) := (bk_cell hv0 0).trans rfl
  have c1 : w1.cell? ⟨w.heap.size, 1, none⟩ = some (.slice pW C.nW cW) := (bk_cell hv0 1).trans rfl
  have c2 : w1.cell? ⟨w.heap.size, 2, none⟩ = some (.slice pC C.nC cC) := (bk_cell hv0 2).trans rfl
  clear hb hB1 hv0
  go_wp2_with fail
  clear c0 c1 c2
  refine (HTR.out _ (by exact HI1.out)).mono ?_; rintro e w2 ⟨rfl, hb2⟩
  have HI2 := Lib.hid (HI1.out.below hb2)
  have HB2 := Lib.hid (bstep HB1.out hb2)
  have hv1 := bk_below HV0.out hb2
  have HC0 := Lib.hid (show w2.cell? ⟨w.heap.size, 2, none⟩ = some (.slice pC C.nC cC) from (bk_cell hv1 2).trans rfl)
  clear hb2 hv1
  go_wp2_with fail
  go_loopw [11, 12] (fun v n W' => ∃ k : Nat, k ≤ i ∧ n = .int .i64 k ∧ v = .int .i64 (sp + sumF (fC C) k) ∧ Below w2.heap.size w2 W') (fun _ n _ => C.nC - (intOf n).toNat)
  case atStart => exact ⟨0, by omega, rfl, by simp [sumF], Below.refl _ _⟩
  case round =>
    obtain ⟨k, hk, rfl, rfl, hb⟩ := hrel
    have HBk := Lib.hid hb
    have hz := hb.size
    have hsumc := HOK.out.1.sumC (k := k) (by omega)
    have c2 := keepc hb HC0.out
    clear hb
    rcases HI2.out.C with h0 | ⟨b, o, e5, hc⟩
    · omega
    simp only at e5
    subst e5
    have hkl : k < C.nC := by omega
    have hkl' : (k : Int) < C.nC := by omega
    have hk0 : (0 : Int) ≤ (k : Int) := by omega
    have hbd := HOK.out.1.C hkl
    have hwd := words_bd hbd.2.2.2.1 hbd.2.2.2.2
    have x2 := keepc HBk.out (hc k hkl).2.2.1
    have x3 := keepc HBk.out (hc k hkl).2.2.2
    have HST := Lib.hid (show sumF (fC C) (k + 1) = sumF (fC C) k + fC C k from rfl)
    have HFC := Lib.hid (show fC C k = (C.cc k * (C.cw k + 1) + 31) / 32 from rfl)
    have hcl : k = i → fC C i = (C.cc k * (C.cw k + 1) + 31) / 32 := fun e => by subst e; rfl
    have HCL := Lib.hid hcl
    have hvc : k = i → sumF (fC C) i = sumF (fC C) k := fun e => by rw [e]
    have HVC := Lib.hid hvc
    clear hcl hvc
    generalize hsm : sumF (fC C) k = sm at *
    clear hsm
    generalize C.cc k = ck at *
    generalize C.cw k = wk at *
    have s0 : IntKind.i64.wrap (wk + 1) = wk + 1 := IntWalk.i64_in _ (by omega)
    obtain ⟨pr, hpr⟩ : ∃ pr, ck * (wk + 1) = pr := ⟨_, rfl⟩
    rw [hpr] at hwd
    have s1 : IntKind.i64.wrap (ck * (wk + 1)) = pr := by rw [hpr]; exact IntWalk.i64_in _ (by omega)
    have s2 : IntKind.i64.wrap (sp + sm + (pr + 31) / 32) = sp + sm + (pr + 31) / 32 := IntWalk.i64_in _ (by omega)
    have HPR := Lib.hid hpr
    clear hc hpr
    by_cases hkn : k < i
    · have hkn' : (k : Int) < i := by omega
      go_wp2_with fail
      go_quiet ((go_at_call 47; exact Calls.quiet_of_same (up32_any pr _ (by omega) (by omega))))
      go_wp2
      refine ⟨⟨k + 1, by omega, by go_num, by rw [HST.out, HFC.out, HPR.out, Int.add_assoc], bdrewN HBk.out _⟩, by simp [intOf]; omega⟩
    · have hkn' : ¬ (k : Int) < i := by omega
      have hki : k = i := by omega
      have HKI := Lib.hid hki
      clear HST HFC
      subst hki
      go_wp2_with fail
      go_quiet ((go_at_call 47; exact Calls.quiet_of_same (up32_any pr _ (by omega) (by omega))))
      go_wp2
      go_ret3
      refine ⟨?_, bstep HB2.out (bdrewN HBk.out _)⟩
      rw [HCL.out (by simp), HVC.out (by simp), HPR.out]
      rfl
end Go.Proofs.Ytofkgceenppdbaa
