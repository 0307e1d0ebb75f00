/- The reference's numbers of a configuration. -/
import Derived.Test.YtofkgceenppdbaaConf4
import Derived.Deep.QuietTactic
import Derived.BigQuiet
namespace Go.Proofs.Ytofkgceenppdbaa
open Go.RowKit
set_option linter.unusedVariables false
set_option linter.unusedSimpArgs false
open Classical in
noncomputable def numB (C : Cfg) : Bool := decide (NumOk C)
theorem numB_ok {C : Cfg} (h : NumOk C) : numB C = true := by simp [numB, h]
theorem numB_bad {C : Cfg} (h : ¬ NumOk C) : numB C = false := by simp [numB, h]
theorem rin_any (n a b : Int) (w : World) :
    Calls Try.prog 52 #[.int .i64 n, .int .i64 a, .int .i64 b] w fun e w' => e = .returned (.bool (inB n a b)) ∧ w' = w := by
  have hd : inB n a b = (decide (a ≤ n) && decide (n ≤ b)) := rfl
  by_cases h1 : a ≤ n
  · by_cases h2 : n ≤ b
    all_goals
      have hr : inB n a b = decide (n ≤ b) := by simp [inB, h1]
      rw [hr]
      clear hd hr
      go_enter Try.func52, Try.ntmps52
      go_wp2
      go_ret
      exact ⟨by simp [*], rfl⟩
  · have hr : inB n a b = false := by simp [inB, h1]
    rw [hr]
    clear hd hr
    go_enter Try.func52, Try.ntmps52
    go_wp2
    go_ret
    exact ⟨by simp [*], rfl⟩
theorem seen_succ (C : Cfg) (k i : Nat) : seenB C (k + 1) i = (seenB C k i || (C.wp k == (i : Int))) := by
  unfold seenB
  rw [List.range_succ, List.any_append]
  simp
theorem bool5 {a1 a2 a3 a4 a5 : Bool} (h : (a1 && a2 && !a3 && a4 && a5) = false) : a1 = false ∨ (a1 = true ∧ a2 = false) ∨ (a1 = true ∧ a2 = true ∧ a3 = true) ∨ (a1 = true ∧ a2 = true ∧ a3 = false ∧ a4 = false) ∨ (a1 = true ∧ a2 = true ∧ a3 = false ∧ a4 = true ∧ a5 = false) := by
  revert h
  cases a1 <;> cases a2 <;> cases a3 <;> cases a4 <;> cases a5 <;> simp
set_option maxRecDepth 100000 in
set_option maxHeartbeats 16000000 in
theorem rnumbers_any (C : Cfg) (l : Lay) (w : World) (h : IsC w C l) (hN : C.nP ≤ 1000000 ∧ C.nW ≤ 1000000 ∧ C.nC ≤ 1000000) :
    Calls Try.prog 29 #[.agg (cfgV C l)] w fun e w' => e = .returned (.bool (numB C)) ∧ Below w.heap.size w w' := by
  have HI := Lib.hid h
  clear h
  obtain ⟨pP, cP, pW, cW, pC, cC⟩ := l
  unfold cfgV
  simp only at *
  obtain ⟨z1, z2, z3⟩ := hN
  have HEND := Lib.hid (show C.nP = C.nP from rfl)
  by_cases hn : okN C = true
  case neg =>
    rw [numB_bad (fun h => hn h.1)]
    have hn' : inB C.nP 1 8 = false ∨ (inB C.nP 1 8 = true ∧ inB C.nW 1 32 = false) ∨ (inB C.nP 1 8 = true ∧ inB C.nW 1 32 = true ∧ (16 : Int) < C.nC) := by
      unfold okN at hn
      cases h1 : inB C.nP 1 8 <;> cases h2 : inB C.nW 1 32 <;> simp [h1, h2] at hn ⊢
      omega
    clear hn
    rcases hn' with h1 | ⟨h1, h2⟩ | ⟨h1, h2, h3⟩
    all_goals
      go_enter Try.func29, Try.ntmps29
      go_wp2_with (go_at_call 52; refine (rin_any _ _ _ _).mono ?_; rintro e w' ⟨rfl, rfl⟩)
      go_ret
      exact ⟨rfl, by go_grown⟩
  case pos =>
  have h1 : inB C.nP 1 8 = true := by unfold okN at hn; simp at hn; exact hn.1.1
  have h2 : inB C.nW 1 32 = true := by unfold okN at hn; simp at hn; exact hn.1.2
  have h3 : ¬ (16 : Int) < C.nC := by unfold okN at hn; simp at hn; omega
  have hnP : 1 ≤ C.nP ∧ C.nP ≤ 8 := by simp [inB] at h1; omega
  have hnW : 1 ≤ C.nW ∧ C.nW ≤ 32 := by simp [inB] at h2; omega
  have HN := Lib.hid hn
  clear hn
  go_enter Try.func29, Try.ntmps29
  go_wp2_with (go_at_call 52; refine (rin_any _ _ _ _).mono ?_; rintro e w' ⟨rfl, rfl⟩)
  refine wp_abs (fun V => V.heap[w.heap.size]? = some (.cells #[.slice pP C.nP cP, .slice pW C.nW cW, .slice pC C.nC cC] 26 (0, 0)) ∧ Below w.heap.size w V) ⟨bk_new w _, (Below.refl _ _).alloc (Nat.le_refl _) _⟩ ?_
  rintro w1 ⟨hv0, hB1⟩
  have HI1 := Lib.hid (HI.out.below hB1)
  have HB1 := Lib.hid hB1
  have HV0 := Lib.hid hv0
  have hvl := bk_lt hv0
  clear hv0 hB1 h1 h2 h3
  go_loopw [3] (fun n W' => ∃ k : Nat, k ≤ C.nP ∧ n = .int .i64 k ∧ Hid (∀ i, i < k → seenB C C.nW i = true ∧ okP C i = true) ∧ Below w1.heap.size w1 W') (fun n _ => C.nP - (intOf n).toNat)
  case atStart => exact ⟨0, by omega, rfl, Lib.hid fun i hi => by omega, Below.refl _ _⟩
  case round =>
    obtain ⟨k, hk, rfl, HD, hb⟩ := hrel
    have HBk := Lib.hid hb
    have hz := hb.size
    have hvk := bk_below HV0.out hb
    have c0 : wr.cell? ⟨w.heap.size, 0, none⟩ = some (.slice pP C.nP cP) := (bk_cell hvk 0).trans rfl
    have c1 : wr.cell? ⟨w.heap.size, 1, none⟩ = some (.slice pW C.nW cW) := (bk_cell hvk 1).trans rfl
    clear hb hvk
    by_cases hkn : k < C.nP
    · have hkn' : (k : Int) < C.nP := by omega
      obtain ⟨wo, rfl⟩ : ∃ wo : World, wo = wr := ⟨_, rfl⟩
      go_wp2_with fail
      go_loopw [4, 5] (fun h n W' => ∃ j : Nat, j ≤ C.nW ∧ n = .int .i64 j ∧ h = .bool (seenB C j k) ∧ W' = wo) (fun _ n _ => C.nW - (intOf n).toNat)
      case atStart => exact ⟨0, by omega, rfl, rfl, rfl⟩
      case round =>
        obtain ⟨j, hj, rfl, rfl, rfl⟩ := hrel
        by_cases hjn : j < C.nW
        · have hjn' : (j : Int) < C.nW := by omega
          rcases HI1.out.W with h0 | ⟨b, o, e5, hc⟩
          · omega
          simp only at e5
          subst e5
          have x0 := keepc HBk.out (hc j hjn).1
          have HST := Lib.hid (seen_succ C j k)
          generalize C.wp j = pj at *
          clear hc
          cases hs : seenB C j k with
          | true =>
            have HSJ := Lib.hid hs
            clear hs
            go_wp2
            refine ⟨⟨j + 1, by omega, by go_num, by rw [HST.out, HSJ.out]; rfl, by first | exact trivial | rfl⟩, by simp [intOf]; omega⟩
          | false =>
            have HSJ := Lib.hid hs
            clear hs
            go_wp2
            refine ⟨⟨j + 1, by omega, by go_num, by rw [HST.out, HSJ.out]; rfl, by first | exact trivial | rfl⟩, by simp [intOf]; omega⟩
        · have hjn' : ¬ (j : Int) < C.nW := by omega
          obtain rfl : j = C.nW := by omega
          rcases HI1.out.P with h0 | ⟨b, o, e5, hc⟩
          · omega
          simp only at e5
          subst e5
          have x0 := keepc HBk.out (hc k hkn).1
          have x1 := keepc HBk.out (hc k hkn).2
          have HOKP := Lib.hid (show okP C k = (inB (C.q k) 4 256 && inB (C.s k) 1 8) from rfl)
          clear hc
          generalize C.q k = qk at *
          generalize C.s k = sk at *
          cases hs : seenB C C.nW k with
          | false =>
            have HNB := Lib.hid (numB_bad (fun h => by have := h.2.2.2.1 k hkn; rw [hs] at this; cases this))
            clear hs
            go_wp2
            go_ret
            exact ⟨by rw [HNB.out]; rfl, bstep HB1.out HBk.out⟩
          | true =>
            have HSK := Lib.hid hs
            clear hs
            cases g1 : inB qk 4 256 with
            | false =>
              have HNB := Lib.hid (numB_bad (fun h => by have := h.2.1 k hkn; rw [HOKP.out, g1] at this; cases this))
              go_wp2_with (go_at_call 52; refine (rin_any _ _ _ _).mono ?_; rintro e w' ⟨rfl, rfl⟩)
              go_ret
              exact ⟨by rw [HNB.out]; rfl, bstep HB1.out HBk.out⟩
            | true =>
              cases g2 : inB sk 1 8 with
              | false =>
                have HNB := Lib.hid (numB_bad (fun h => by have := h.2.1 k hkn; rw [HOKP.out, g1, g2] at this; cases this))
                go_wp2_with (go_at_call 52; refine (rin_any _ _ _ _).mono ?_; rintro e w' ⟨rfl, rfl⟩)
                go_ret
                exact ⟨by rw [HNB.out]; rfl, bstep HB1.out HBk.out⟩
              | true =>
                have HOK2 : Hid (okP C k = true) := Lib.hid (by rw [HOKP.out, g1, g2]; rfl)
                clear HOKP
                go_wp2_with (go_at_call 52; refine (rin_any _ _ _ _).mono ?_; rintro e w' ⟨rfl, rfl⟩)
                refine ⟨⟨k + 1, by omega, by go_num, Lib.hid fun i hi => ?_, HBk.out⟩, by simp [intOf]; omega⟩
                by_cases e : i = k
                · subst e; exact ⟨HSK.out, HOK2.out⟩
                · exact HD.out i (by omega)
    · have hkn' : ¬ (k : Int) < C.nP := by omega
      obtain rfl : k = C.nP := by omega
      have HDP := HD
      obtain ⟨wo, rfl⟩ : ∃ wo : World, wo = wr := ⟨_, rfl⟩
      have HV1 := Lib.hid (bk_below HV0.out HBk.out)
      have HI2 := Lib.hid (HI1.out.below HBk.out)
      have HB2 := Lib.hid (bstep HB1.out HBk.out)
      have hvl2 := bk_lt HV1.out
      clear HBk HI1 HB1 HV0
      go_wp2_with fail
      clear c0 c1
      go_loopw [6] (fun n W' => ∃ k : Nat, k ≤ C.nW ∧ n = .int .i64 k ∧ Hid (∀ i, i < k → okW C i = true) ∧ Below wo.heap.size wo W') (fun n _ => C.nW - (intOf n).toNat)
      case atStart => exact ⟨0, by omega, rfl, Lib.hid fun i hi => by omega, Below.refl _ _⟩
      case round =>
        obtain ⟨k, hk, rfl, HD, hb⟩ := hrel
        have HBk := Lib.hid hb
        have hz := hb.size
        have hvk := bk_below HV1.out hb
        have c0 : wr.cell? ⟨w.heap.size, 0, none⟩ = some (.slice pP C.nP cP) := (bk_cell hvk 0).trans rfl
        have c1 : wr.cell? ⟨w.heap.size, 1, none⟩ = some (.slice pW C.nW cW) := (bk_cell hvk 1).trans rfl
        clear hb hvk
        by_cases hkn : k < C.nW
        · have hkn' : (k : Int) < C.nW := by omega
          have hk0 : (0 : Int) ≤ (k : Int) := by omega
          rcases HI2.out.W with h0 | ⟨b, o, e5, hc⟩
          · omega
          simp only at e5
          subst e5
          have x0 := keepc HBk.out (hc k hkn).1
          have x1 := keepc HBk.out (hc k hkn).2
          have HOKW := Lib.hid (show okW C k = (inB (C.wp k) 0 ((C.nP : Int) - 1) && inB (C.wt k) 1 255) from rfl)
          have s1 : IntKind.i64.wrap ((C.nP : Int) - 1) = (C.nP : Int) - 1 := IntWalk.i64_in _ (by omega)
          clear hc
          generalize C.wp k = pk at *
          generalize C.wt k = tk at *
          cases g1 : inB pk 0 ((C.nP : Int) - 1) with
          | false =>
            have HNB := Lib.hid (numB_bad (fun h => by have := h.2.2.1 k hkn; rw [HOKW.out, g1] at this; cases this))
            go_wp2_with fail
            go_quiet ((go_at_call 52; exact Calls.quiet_of_same (rin_any _ _ _ _)))
            go_wp2
            go_ret
            exact ⟨by rw [HNB.out]; rfl, bstep HB2.out (bdrewN HBk.out _)⟩
          | true =>
            cases g2 : inB tk 1 255 with
            | false =>
              have HNB := Lib.hid (numB_bad (fun h => by have := h.2.2.1 k hkn; rw [HOKW.out, g1, g2] at this; cases this))
              go_wp2_with fail
              go_quiet ((go_at_call 52; exact Calls.quiet_of_same (rin_any _ _ _ _)))
              go_wp2
              go_ret
              exact ⟨by rw [HNB.out]; rfl, bstep HB2.out (bdrewN HBk.out _)⟩
            | true =>
              have HOK2 : Hid (okW C k = true) := Lib.hid (by rw [HOKW.out, g1, g2]; rfl)
              clear HOKW
              go_wp2_with fail
              go_quiet ((go_at_call 52; exact Calls.quiet_of_same (rin_any _ _ _ _)))
              go_wp2
              refine ⟨⟨k + 1, by omega, by go_num, Lib.hid fun i hi => ?_, bdrewN HBk.out _⟩, by simp [intOf]; omega⟩
              by_cases e : i = k
              · subst e; exact HOK2.out
              · exact HD.out i (by omega)
        · have hkn' : ¬ (k : Int) < C.nW := by omega
          obtain rfl : k = C.nW := by omega
          have HDW := HD
          obtain ⟨wq, rfl⟩ : ∃ wq : World, wq = wr := ⟨_, rfl⟩
          have HV2 := Lib.hid (bk_below HV1.out HBk.out)
          have HI3 := Lib.hid (HI2.out.below HBk.out)
          have HB3 := Lib.hid (bstep HB2.out HBk.out)
          have hvl3 := bk_lt HV2.out
          clear HBk HI2 HB2 HV1
          go_wp2_with fail
          clear c0 c1
          go_loopw [7] (fun n W' => ∃ k : Nat, k ≤ C.nC ∧ n = .int .i64 k ∧ Hid (∀ i, i < k → okC C i = true) ∧ Below wq.heap.size wq W') (fun n _ => C.nC - (intOf n).toNat)
          case atStart => exact ⟨0, by omega, rfl, Lib.hid fun i hi => by omega, Below.refl _ _⟩
          case round =>
            obtain ⟨k, hk, rfl, HD, hb⟩ := hrel
            have HBk := Lib.hid hb
            have hz := hb.size
            have hvk := bk_below HV2.out hb
            have c0 : wr.cell? ⟨w.heap.size, 0, none⟩ = some (.slice pP C.nP cP) := (bk_cell hvk 0).trans rfl
            have c2 : wr.cell? ⟨w.heap.size, 2, none⟩ = some (.slice pC C.nC cC) := (bk_cell hvk 2).trans rfl
            have hvl4 := bk_lt hvk
            clear hb hvk
            by_cases hkn : k < C.nC
            · have hkn' : (k : Int) < C.nC := by omega
              rcases HI3.out.C with h0 | ⟨b, o, e5, hc⟩
              · omega
              simp only at e5
              subst e5
              have x0 := keepc HBk.out (hc k hkn).1
              have x1 := keepc HBk.out (hc k hkn).2.1
              have x2 := keepc HBk.out (hc k hkn).2.2.1
              have x3 := keepc HBk.out (hc k hkn).2.2.2
              have HOKC := Lib.hid (show okC C k = (inB (C.cf k) 0 ((C.nP : Int) - 1) && inB (C.ct k) 0 ((C.nP : Int) - 1) && (C.cf k != C.ct k) && inB (C.cc k) 1 8 && inB (C.cw k) 1 8) from rfl)
              have s1 : IntKind.i64.wrap ((C.nP : Int) - 1) = (C.nP : Int) - 1 := IntWalk.i64_in _ (by omega)
              clear hc
              generalize C.cf k = fk at *
              generalize C.ct k = tk at *
              generalize C.cc k = ck at *
              generalize C.cw k = wk at *
              cases hall : (inB fk 0 ((C.nP : Int) - 1) && inB tk 0 ((C.nP : Int) - 1) && (fk != tk) && inB ck 1 8 && inB wk 1 8) with
              | true =>
                have HOK2 : Hid (okC C k = true) := Lib.hid (by rw [HOKC.out, hall])
                simp only [Bool.and_eq_true] at hall
                obtain ⟨⟨⟨⟨g1, g2⟩, g3⟩, g4⟩, g5⟩ := hall
                have g3' : (fk == tk) = false := by simpa using g3
                clear HOKC g3
                go_wp2_with (go_at_call 52; refine (rin_any _ _ _ _).mono ?_; rintro e w' ⟨rfl, rfl⟩)
                refine ⟨⟨k + 1, by omega, by go_num, Lib.hid fun i hi => ?_, HBk.out.alloc HBk.out.size _⟩, by simp [intOf]; omega⟩
                by_cases e : i = k
                · subst e; exact HOK2.out
                · exact HD.out i (by omega)
              | false =>
                have HNB := Lib.hid (numB_bad (fun h => by have := h.2.2.2.2 k hkn; rw [HOKC.out, hall] at this; cases this))
                have hcase : inB fk 0 ((C.nP : Int) - 1) = false ∨ (inB fk 0 ((C.nP : Int) - 1) = true ∧ inB tk 0 ((C.nP : Int) - 1) = false) ∨ (inB fk 0 ((C.nP : Int) - 1) = true ∧ inB tk 0 ((C.nP : Int) - 1) = true ∧ (fk == tk) = true) ∨
                    (inB fk 0 ((C.nP : Int) - 1) = true ∧ inB tk 0 ((C.nP : Int) - 1) = true ∧ (fk == tk) = false ∧ inB ck 1 8 = false) ∨ (inB fk 0 ((C.nP : Int) - 1) = true ∧ inB tk 0 ((C.nP : Int) - 1) = true ∧ (fk == tk) = false ∧ inB ck 1 8 = true ∧ inB wk 1 8 = false) := by
                  exact bool5 hall
                clear hall HOKC
                rcases hcase with g1 | ⟨g1, g2⟩ | ⟨g1, g2, g3⟩ | ⟨g1, g2, g3, g4⟩ | ⟨g1, g2, g3, g4, g5⟩
                all_goals
                  go_wp2_with (go_at_call 52; refine (rin_any _ _ _ _).mono ?_; rintro e w' ⟨rfl, rfl⟩)
                  go_ret
                  exact ⟨by rw [HNB.out]; rfl, bstep HB3.out (HBk.out.alloc HBk.out.size _)⟩
            · have hkn' : ¬ (k : Int) < C.nC := by omega
              obtain rfl : k = C.nC := by omega
              have HNB := Lib.hid (numB_ok ⟨HN.out, fun i hi => (HDP.out i hi).2, HDW.out, fun i hi => (HDP.out i hi).1, HD.out⟩)
              go_wp2
              go_ret
              exact ⟨by rw [HNB.out]; rfl, bstep HB3.out HBk.out⟩
end Go.Proofs.Ytofkgceenppdbaa
