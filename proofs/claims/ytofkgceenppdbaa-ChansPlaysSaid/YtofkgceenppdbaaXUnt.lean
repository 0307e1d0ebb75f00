/- The law's 'untouched': all frames that are no channel's are as they were. -/
import Derived.Test.YtofkgceenppdbaaMPage
import Derived.Test.YtofkgceenppdbaaLEnds
import Derived.Test.YtofkgceenppdbaaRPlan
namespace Go.Proofs.Ytofkgceenppdbaa
open Go.RowKit
set_option linter.unusedVariables false
set_option linter.unusedSimpArgs false
/-- the first frame of the first k channels -/
noncomputable def mnF (C : Cfg) : Nat → Int
  | 0 => frE C
  | k + 1 => if chA C k < mnF C k then chA C k else mnF C k
theorem mnF_le {C : Cfg} {i : Nat} : ∀ {k : Nat}, i < k → mnF C k ≤ chA C i
  | 0, h => absurd h (by omega)
  | k + 1, h => by
    unfold mnF
    by_cases e : i = k
    · subst e
      split <;> omega
    · have := mnF_le (C := C) (i := i) (k := k) (by omega)
      split <;> omega
theorem not_mine {C : Cfg} {i k : Nat} (hok : CkOk C) (h : (i : Int) < mnF C C.nC ∨ frE C ≤ i) (hk : k < 32) : ¬ inWin C (i * 32 + k) := by
  rintro ⟨j, hj, h1, h2⟩
  have e1 := frN_ch hok hj
  have e2 := mnF_le (C := C) hj
  obtain ⟨nF, hn, _, _⟩ := frE_pos hok
  have e3 := win_in (nF := nF) hok hj (by rw [hn]; exact Int.le_refl _)
  omega
/-- what the law wrote -/
def m99 : Nat → Int := fun j => if j % 32 = 7 then 99 else 0
theorem m99_at {i k : Nat} (hk : k < 32) : m99 (i * 32 + k) = if k = 7 then 99 else 0 := by
  unfold m99
  rw [Nat.mul_comm, Nat.mul_add_mod, Nat.mod_eq_of_lt hk]
set_option maxRecDepth 100000 in
set_option maxHeartbeats 4000000 in
theorem unt_any (C : Cfg) (l : Lay) (mm fb : Nat) (M : Nat → Int) (w : World) (hI : IsC w C l) (hN : Big C) (hok : CkOk C) (hm : MemS w mm fb 1024 M) (hM : ∀ i, i < 1024 * 32 → 0 ≤ M i ∧ M i < 4294967296) (h9 : ∀ j, j < 1024 * 32 → ¬ inWin C j → M j = m99 j) :
    Calls Try.prog 17 #[.pointer (some ⟨mm, 0, none⟩), .agg (cfgV C l)] w fun e w' => e = .returned (.bool true) ∧ Below w.heap.size w w' := by
  have HFr := Lib.hid fun (W : World) (h : IsC W C l) => rframes_any C l W h hN
  have HCh := Lib.hid fun (W : World) (h : IsC W C l) (i : Nat) => rchan_any C l i W h hN
  have HPg := Lib.hid fun (W : World) (i : Nat) (h : MemS W mm fb 1024 M) (hi : i < 1024) => mpage_any mm fb 1024 i M W h hM hi
  have HNM := Lib.hid fun (i k : Nat) (h : (i : Int) < mnF C C.nC ∨ frE C ≤ i) (hk : k < 32) (hi : i < 1024) => (h9 (i * 32 + k) (by omega) (not_mine hok h hk)).trans (m99_at hk)
  have HI := Lib.hid hI
  have HM := Lib.hid hm
  have hn16 := hok.1.N.2.2.2.2
  clear hI hm hM h9 hN
  obtain ⟨pP, cP, pW, cW, pC, cC⟩ := l
  unfold cfgV at *
  simp only at *
  go_enter Try.func17, Try.ntmps17
  go_wp2_with fail
  refine (HFr.out _ ?_).mono ?_
  · exact HI.out.below (by go_grown)
  rintro e w1 ⟨rfl, hb⟩
  have HB1 := Lib.hid (show Below w.heap.size w w1 from bstep ((Below.refl _ _).alloc (Nat.le_refl _) _) hb)
  have HV1 := Lib.hid (show CV w1 w.heap.size C pP cP pW cW pC cC from ⟨bk_below (bk_new w _) hb, HI.out.below HB1.out⟩)
  have HM1 := Lib.hid (HM.out.below HB1.out)
  clear hb HI HM
  go_wp2_with fail
  go_loopw [5, 6] (fun v iv W' => ∃ k : Nat, k ≤ C.nC ∧ iv = .int .i64 k ∧ v = .int .i64 (mnF C k) ∧ Below w1.heap.size w1 W') (fun _ iv _ => C.nC - (intOf iv).toNat)
  case atStart => exact ⟨0, by omega, rfl, rfl, Below.refl _ _⟩
  case round =>
    obtain ⟨k, hk, rfl, rfl, hb⟩ := hrel
    have HV := Lib.hid (HV1.out.below hb)
    have HM2 := Lib.hid (HM1.out.below hb)
    have HB := Lib.hid (bstep HB1.out hb)
    have HB' := Lib.hid hb
    clear hb
    obtain ⟨y0, y1, y2, y3⟩ := HV.out.cells
    by_cases hkn : k < C.nC
    · have hkn' : (k : Int) < C.nC := by omega
      have hmn : mnF C (k + 1) = if chA C k < mnF C k then chA C k else mnF C k := rfl
      have HMN := Lib.hid hmn
      clear hmn
      go_wp2_with fail
      refine (HCh.out _ HV.out.i k).mono ?_
      rintro e w3 ⟨rfl, hb3⟩
      have HB3 := Lib.hid (bstep HB'.out hb3)
      clear hb3 y0 y1 y2 y3
      go_wp2_with fail
      exact ⟨⟨k + 1, by omega, by go_num, by rw [HMN.out], HB3.out⟩, by simp [intOf]; omega⟩
    · obtain rfl : k = C.nC := by omega
      obtain ⟨wo, rfl⟩ : ∃ wo : World, wo = wr := ⟨_, rfl⟩
      have hnn : ¬ (C.nC : Int) < C.nC := by omega
      obtain ⟨F, hF⟩ : ∃ F, mnF C C.nC = F := ⟨_, rfl⟩
      obtain ⟨E, hE⟩ : ∃ E, frE C = E := ⟨_, rfl⟩
      rw [hF, hE] at HNM
      rw [hE] at HFr
      simp only [hF]
      clear hF hE hkn
      go_wp2_with fail
      clear y0 y1 y2
      go_loopw [10] (fun iv W' => ∃ i : Nat, i ≤ 1024 ∧ iv = .int .i64 i ∧ Below wo.heap.size wo W') (fun iv _ => 1024 - (intOf iv).toNat)
      case atStart => exact ⟨0, by omega, rfl, Below.refl _ _⟩
      case round =>
        obtain ⟨i, hi, rfl, hb⟩ := hrel
        have HX := Lib.hid hb
        clear hb
        by_cases hin : i < 1024
        · have hin' : (i : Int) < 1024 := by omega
          go_wp2_with fail
          refine (HPg.out _ i (HM2.out.below HX.out) hin).mono ?_
          rintro e w4 ⟨b, c, rfl, hsl, hb4⟩
          have HS := Lib.hid hsl
          have HX4 := Lib.hid (bstep HX.out hb4)
          clear hsl hb4
          go_wp2_with fail
          go_loopw [13] (fun kv W' => ∃ k : Nat, k ≤ 32 ∧ kv = .int .i64 k ∧ Below w4.heap.size w4 W') (fun kv _ => 32 - (intOf kv).toNat)
          case atStart => exact ⟨0, by omega, rfl, Below.refl _ _⟩
          case round =>
            obtain ⟨k, hk, rfl, hb⟩ := hrel
            have HY := Lib.hid hb
            have HV5 := Lib.hid (HV.out.below (bstep HX4.out hb))
            clear hb
            by_cases hkn : k < 32
            · have hkn' : (k : Int) < 32 := by omega
              have hk0 : (0 : Int) ≤ (k : Int) := by omega
              rcases HS.out with h0 | ⟨b2, o2, e2, hsl⟩
              · omega
              simp only [Option.some.injEq, Addr.mk.injEq, and_true] at e2
              obtain ⟨rfl, rfl⟩ := e2
              have hc := keepc HY.out (hsl k hkn)
              simp only [pg_getD hkn, Nat.zero_add] at hc
              clear hsl
              obtain ⟨y0, y1, y2, y3⟩ := HV5.out.cells
              by_cases A : (i : Int) < F
              · have hv := HNM.out i k (.inl A) hkn hin
                have A' : ¬ F ≤ (i : Int) := by omega
                have A2 : decide (F ≤ (i : Int)) = false := decide_eq_false A'
                by_cases k7 : k = 7
                · subst k7
                  rw [if_pos rfl] at hv
                  rw [hv] at hc
                  clear hv
                  go_wp2_with fail
                  exact ⟨⟨8, by omega, by go_num, HY.out⟩, by simp [intOf]⟩
                · rw [if_neg k7] at hv
                  rw [hv] at hc
                  have x1 : ((k : Int) == 7) = false := beq_eq_false_iff_ne.2 (by omega)
                  have x2 : ((k : Int) != 7) = true := by rw [bne, x1]; rfl
                  clear hv k7
                  go_wp2_with fail
                  exact ⟨⟨k + 1, by omega, by go_num, HY.out⟩, by simp [intOf]; omega⟩
              by_cases B : E ≤ (i : Int)
              · have hv := HNM.out i k (.inr B) hkn hin
                have A' : F ≤ (i : Int) := by omega
                have A2 : decide (F ≤ (i : Int)) = true := decide_eq_true A'
                have B' : ¬ (i : Int) < E := by omega
                have B2 : decide ((i : Int) < E) = false := decide_eq_false B'
                by_cases k7 : k = 7
                · subst k7
                  rw [if_pos rfl] at hv
                  rw [hv] at hc
                  clear hv
                  go_wp2_with fail
                  refine (HFr.out _ HV5.out.i).mono ?_
                  rintro e w6 ⟨rfl, hb6⟩
                  have HY6 := Lib.hid (bstep HY.out hb6)
                  replace hc := keepc hb6 hc
                  clear hb6 y0 y1 y2 y3
                  go_wp2_with fail
                  exact ⟨⟨8, by omega, by go_num, HY6.out⟩, by simp [intOf]⟩
                · rw [if_neg k7] at hv
                  rw [hv] at hc
                  have x1 : ((k : Int) == 7) = false := beq_eq_false_iff_ne.2 (by omega)
                  have x2 : ((k : Int) != 7) = true := by rw [bne, x1]; rfl
                  clear hv k7
                  go_wp2_with fail
                  refine (HFr.out _ HV5.out.i).mono ?_
                  rintro e w6 ⟨rfl, hb6⟩
                  have HY6 := Lib.hid (bstep HY.out hb6)
                  replace hc := keepc hb6 hc
                  clear hb6 y0 y1 y2 y3
                  go_wp2_with fail
                  exact ⟨⟨k + 1, by omega, by go_num, HY6.out⟩, by simp [intOf]; omega⟩
              have A' : F ≤ (i : Int) := by omega
              have A2 : decide (F ≤ (i : Int)) = true := decide_eq_true A'
              have B' : (i : Int) < E := by omega
              have B2 : decide ((i : Int) < E) = true := decide_eq_true B'
              go_wp2_with fail
              refine (HFr.out _ HV5.out.i).mono ?_
              rintro e w6 ⟨rfl, hb6⟩
              have HY6 := Lib.hid (bstep HY.out hb6)
              replace hc := keepc hb6 hc
              clear hb6 y0 y1 y2 y3
              go_wp2_with fail
              exact ⟨⟨k + 1, by omega, by go_num, HY6.out⟩, by simp [intOf]; omega⟩
            · obtain rfl : k = 32 := by omega
              have hnn2 : ¬ ((32 : Nat) : Int) < 32 := by omega
              go_wp2_with fail
              exact ⟨⟨i + 1, by omega, by go_num, bstep HX4.out HY.out⟩, by simp [intOf]; omega⟩
        · obtain rfl : i = 1024 := by omega
          have hnn2 : ¬ ((1024 : Nat) : Int) < 1024 := by omega
          go_wp2
          go_ret
          exact ⟨rfl, bstep HB.out HX.out⟩
end Go.Proofs.Ytofkgceenppdbaa
