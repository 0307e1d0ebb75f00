/- The reference's Row and Turn. -/
import Derived.Test.YtlmgkdilidgkgaaRConf2
import Derived.Test.YtlmgkdilidgkgaaPlanW
import Derived.StillTailTactics
namespace Go.Proofs.Ytlmgkdilidgkgaa
open Go.RowKit
set_option linter.unusedVariables false
set_option linter.unusedSimpArgs false
theorem ieI : IntElem Try.prog 54 3 .i64 8 := ⟨Try.underlying54, by kernel_rfl, by decide⟩
theorem own_base {w : World} {B B' : Nat} {e : TypeId} {q : IntKind} {v : Value} {zs : List Int} (h : w.ownsInts B e q v zs) (hB : B' ≤ B) : w.ownsInts B' e q v zs := by
  obtain ⟨⟨h0, h1⟩, h2⟩ := h
  refine ⟨⟨h0, ?_⟩, h2⟩
  rcases h1 with h1 | ⟨g, cap, cur, e1, hb, r⟩
  · exact .inl h1
  · exact .inr ⟨g, cap, cur, e1, Nat.le_trans hB hb, r⟩
def ints (l : List Nat) : List Int := l.map fun n : Nat => (n : Int)
theorem ints_length (l : List Nat) : (ints l).length = l.length := by simp [ints]
theorem ints_getD (l : List Nat) (i : Nat) : (ints l).getD i 0 = ((l.getD i 0 : Nat) : Int) := by
  simp only [ints, List.getD_eq_getElem?_getD, List.getElem?_map]
  cases l[i]? <;> rfl
set_option maxHeartbeats 4000000 in
theorem row_any (C : Cfg) (l : Lay) (w : World) (h : IsC w C l) (hok : NumOk C) :
    Calls Try.prog 24 #[.agg (cfgV C l)] w fun e w' => ∃ v, e = .returned v ∧ w'.ownsInts w.heap.size 3 .i64 v (ints (rowL C)) ∧ Below w.heap.size w w' := by
  have HT := Lib.hid hok.ticks
  have hNN := hok.N
  have HI := Lib.hid h
  clear h hok
  obtain ⟨pP, cP, pW, cW, pC, cC⟩ := l
  unfold cfgV at *
  simp only at *
  go_enter Try.func24, Try.ntmps24
  go_wp2_with fail
  refine wp_abs (fun V => V.heap[w.heap.size]? = some (.cells #[.slice pP C.nP cP, .slice pW C.nW cW, .slice pC C.nC cC] 26 (0, 0)) ∧ Below w.heap.size w V) ⟨bk_new w _, (Below.refl _ _).alloc (Nat.le_refl _) _⟩ ?_
  rintro w1 ⟨hv0, hB1⟩
  have HI1 := Lib.hid (HI.out.below hB1)
  have HB1 := Lib.hid hB1
  have HV0 := Lib.hid hv0
  have hvl := bk_lt hv0
  have hz1 := hB1.size
  clear hv0 hB1
  go_loopw [3, 4] (fun v n W' => ∃ k : Nat, k ≤ C.nW ∧ n = .int .i64 k ∧ W'.ownsInts w1.heap.size 3 .i64 v (ints (rowTo C k)) ∧ Below w1.heap.size w1 W') (fun _ n _ => C.nW - (intOf n).toNat)
  case atStart => exact ⟨0, by omega, rfl, World.ownsInts_nil _ _ _ _, Below.refl _ _⟩
  case round =>
    obtain ⟨k, hk, rfl, ho, hb⟩ := hrel
    have HO := Lib.hid ho
    have HB := Lib.hid hb
    have hz := hb.size
    have hvk := bk_below HV0.out hb
    have c1 : wr.cell? ⟨w.heap.size, 1, none⟩ = some (.slice pW C.nW cW) := (bk_cell hvk 1).trans rfl
    clear hvk hb ho
    by_cases hkn : k < C.nW
    · have hkn' : (k : Int) < C.nW := by omega
      have hbd := HT.out k hkn
      have hlr := rowTo_length HT.out k (by omega)
      have hsm := sumT_bd HT.out (n := k) (by omega)
      obtain ⟨wo, rfl⟩ : ∃ wo : World, wo = wr := ⟨_, rfl⟩
      obtain ⟨tn, htn⟩ : ∃ tn : Nat, C.wt k = tn := ⟨(C.wt k).toNat, by omega⟩
      have HST := Lib.hid (show rowTo C (k + 1) = rowTo C k ++ List.replicate tn k by rw [show tn = (C.wt k).toNat by omega]; rfl)
      rcases HI1.out.W with h0 | ⟨b, o, e5, hc⟩
      · omega
      simp only at e5
      subst e5
      have x1 := keepc HB.out (hc k hkn).2
      rw [htn] at x1 hbd
      have hx1l := block_lt_of_cell x1
      have hvw := block_lt_of_cell c1
      have HX1 := Lib.hid x1
      have HC1 := Lib.hid c1
      clear hc htn x1
      go_wp2_with fail
      clear c1
      go_loopw [3, 5] (fun v n W' => ∃ j : Nat, j ≤ tn ∧ n = .int .i64 j ∧ W'.ownsInts w1.heap.size 3 .i64 v (ints (rowTo C k ++ List.replicate j k)) ∧ Below w1.heap.size w1 W' ∧ wo.heap.size ≤ W'.heap.size) (fun _ n _ => tn - (intOf n).toNat)
      case atStart => exact ⟨0, by omega, rfl, by simpa using HO.out, HB.out, Nat.le_refl _⟩
      case round =>
        obtain ⟨j, hj, rfl, ho, hb, hz3⟩ := hrel
        have HO2 := Lib.hid ho
        have HB2 := Lib.hid hb
        have hz2 := hb.size
        have hvk := bk_below HV0.out hb
        have c1 : wr.cell? ⟨w.heap.size, 1, none⟩ = some (.slice (some ⟨b, o, none⟩) C.nW cW) := (bk_cell hvk 1).trans rfl
        rcases HI1.out.W with h0 | ⟨b', o', e5, hc⟩
        · omega
        simp only [Option.some.injEq, Addr.mk.injEq, and_true] at e5
        obtain ⟨rfl, rfl⟩ := e5
        have x1 := keepc hb (hc k hkn).2
        have hx2 := HX1.out
        have hcc : C.wt k = tn := by
          have e := (keepc HB.out (hc k hkn).2).symm.trans hx2
          simpa using e
        rw [hcc] at x1
        clear hvk hb ho hc hx2 hcc
        by_cases hjn : j < tn
        · have hjn' : (j : Int) < tn := by omega
          have hlen : (ints (rowTo C k ++ List.replicate j k)).length < 100000000 := by rw [ints_length]; simp; omega
          have hwf : (Lit.int .i64 ((k : Nat) : Int)).wf = true := by
            have e1 : IntKind.i64.min = -9223372036854775808 := rfl
            have e2 : IntKind.i64.max = 9223372036854775807 := rfl
            simp only [Lit.wf, Bool.and_eq_true, decide_eq_true_eq]
            omega
          have HLEN := Lib.hid hlen
          clear hlen
          go_wp2_with (at_builtin; refine app1 rfl _ _ _ rfl ieI _ _ (k : Int) (by rfl) HO2.out (by rfl) hwf HLEN.out hz2 ?_; intro v' w5 o5 hb5 hg5)
          refine ⟨⟨j + 1, by omega, by go_num, ?_, HB2.out.trans hb5, by have := hb5.size; omega⟩, by simp [intOf]; omega⟩
          rw [List.replicate_succ', ← List.append_assoc]
          simpa [ints] using o5
        · have hjn' : ¬ (j : Int) < tn := by omega
          obtain rfl : j = tn := by omega
          go_wp2_with fail
          refine ⟨⟨k + 1, by omega, by go_num, by rw [HST.out]; exact HO2.out, HB2.out⟩, by simp [intOf]; omega⟩
    · have hkn' : ¬ (k : Int) < C.nW := by omega
      obtain rfl : k = C.nW := by omega
      go_wp2
      go_ret
      exact ⟨_, rfl, own_base HO.out hz1, bstep HB1.out HB.out⟩
set_option maxHeartbeats 2000000 in
theorem rturn_any (C : Cfg) (l : Lay) (t : Int) (w : World) (h : IsC w C l) (hN : C.nP ≤ 1000000 ∧ C.nW ≤ 1000000 ∧ C.nC ≤ 1000000) (h0 : 0 ≤ t) (h1 : t < 18446744073709551616) :
    Calls Try.prog 11 #[.agg (cfgV C l), .int .u64 t] w fun e w' => e = .returned (.tuple #[.int .i64 (turnP C t), .int .i64 (turnW C t), .int .i64 (ckE C)]) ∧ Below w.heap.size w w' := by
  have hck := fun (W : World) (h : IsC W C l) => rcheck_any C l W h hN
  have hrw := fun (W : World) (h : IsC W C l) (hk : NumOk C) => row_any C l W h hk
  have HI := Lib.hid h
  have HRW := Lib.hid hrw
  clear h hN hrw
  obtain ⟨pP, cP, pW, cW, pC, cC⟩ := l
  unfold cfgV at *
  simp only at *
  by_cases hok : CkOk C
  case neg =>
    have hne := ckE_ne hok
    unfold turnP turnW
    rw [if_neg hok, if_neg hok]
    generalize ckE C = er at *
    have HCK := Lib.hid hck
    clear hck hok
    go_enter Try.func11, Try.ntmps11
    go_wp2_with fail
    refine (HCK.out _ (by exact HI.out.below (by go_grown))).mono ?_; rintro e w1 ⟨rfl, hb⟩
    go_wp2
    go_ret3
    exact ⟨rfl, bstep (by go_grown) hb⟩
  case pos =>
  rw [ckE_ok hok] at hck ⊢
  unfold turnP turnW
  rw [if_pos hok, if_pos hok]
  have HCK := Lib.hid hck
  have HT := Lib.hid hok.1.ticks
  have HOK := Lib.hid hok
  have hNN := hok.1.N
  have hmj := hok.1.maj
  have hlr := rowTo_length HT.out C.nW (Nat.le_refl _)
  obtain ⟨m, hm⟩ : ∃ m : Nat, (rowL C).length = m := ⟨_, rfl⟩
  have hmt : majT C = (m : Int) := by rw [← hm]; exact hlr.symm
  rw [hmt] at hmj ⊢
  obtain ⟨x, hx⟩ : ∃ x : Nat, (x : Int) = t % m := ⟨(t % m).toNat, Int.toNat_of_nonneg (Int.emod_nonneg _ (by omega))⟩
  have hxm : (x : Int) < m := by rw [hx]; exact Int.emod_lt_of_pos _ (by omega)
  rw [← hx, Int.toNat_natCast]
  have hw := winAt_spec HT.out (x := x) (by show _ < majT C; omega)
  have hwg := Lib.hid (show (rowL C).getD x 0 = winAt C x from rfl)
  generalize hwn : winAt C x = wn at *
  have hwl := hw.1
  have HM := Lib.hid hm
  have HX := Lib.hid hx
  clear hck hok hw hwn hm hx hlr hmt
  have s0 : IntKind.u64.wrap (m : Int) = m := by rw [IntKind.wrap_u64]; omega
  have s1 : ((m : Int) == 0) = false := beq_eq_false_iff_ne.2 (by omega)
  have s3 : t % (m : Int) = (x : Int) := HX.out.symm
  have s4 : t.tmod (m : Int) = (x : Int) := by rw [Int.tmod_eq_emod_of_nonneg h0]; exact s3
  have s5 : IntKind.i64.wrap (x : Int) = x := IntWalk.i64_in _ (by omega)
  have s6 : IntKind.u64.wrap (x : Int) = x := by rw [IntKind.wrap_u64]; omega
  have hxm2 : x < m := by omega
  go_enter Try.func11, Try.ntmps11
  go_wp2_with fail
  refine (HCK.out _ (by exact HI.out.below (by go_grown))).mono ?_; rintro e w1 ⟨rfl, hb⟩
  have hB1 : Below w.heap.size w w1 := bstep (by go_grown) hb
  have hv0 : w1.heap[w.heap.size]? = some (.cells #[.slice pP C.nP cP, .slice pW C.nW cW, .slice pC C.nC cC] 26 (0, 0)) := bk_below (bk_new w _) hb
  have HI1 := Lib.hid (HI.out.below hB1)
  have HB1 := Lib.hid hB1
  have HV0 := Lib.hid hv0
  have c0 : w1.cell? ⟨w.heap.size, 0, none⟩ = some (.slice pP C.nP cP) := (bk_cell hv0 0).trans rfl
  have c1 : w1.cell? ⟨w.heap.size, 1, none⟩ = some (.slice pW C.nW cW) := (bk_cell hv0 1).trans rfl
  have c2 : w1.cell? ⟨w.heap.size, 2, none⟩ = some (.slice pC C.nC cC) := (bk_cell hv0 2).trans rfl
  clear hb hB1 hv0
  go_wp2_with fail
  clear c0 c1 c2
  refine (HRW.out _ (by exact HI1.out) HOK.out.1).mono ?_; rintro e w2 ⟨v, rfl, ho2, hb2⟩
  obtain ⟨p2, cp2, rfl, hs2, _⟩ := own_sl ho2
  rw [ints_length, HM.out] at hs2
  have HB2 := Lib.hid (bstep HB1.out hb2)
  have c1 : w2.cell? ⟨w.heap.size, 1, none⟩ = some (.slice pW C.nW cW) := (bk_cell (bk_below HV0.out hb2) 1).trans rfl
  have HI2 := Lib.hid (HI1.out.below hb2)
  rcases hs2 with h00 | ⟨bb, oo, rfl, hcc⟩
  · omega
  have y0 := hcc x hxm2
  simp only [ints_getD] at y0
  rw [hwg.out] at y0
  have HLN := Lib.hid (show (ints (rowL C)).length = m by rw [ints_length]; exact HM.out)
  rw [HLN.out]
  rcases HI2.out.W with h00 | ⟨b, o, e5, hc⟩
  · omega
  simp only at e5
  subst e5
  have x0 := (hc wn hwl).1
  have hwl' : (wn : Int) < C.nW := by omega
  clear ho2 hb2 hcc hc
  go_wp2
  go_ret3
  exact ⟨rfl, HB2.out⟩
end Go.Proofs.Ytlmgkdilidgkgaa
