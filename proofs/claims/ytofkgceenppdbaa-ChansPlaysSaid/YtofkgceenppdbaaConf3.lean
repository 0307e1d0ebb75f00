/- conf's numbers: is a configuration one that may be, but for its frames. -/
import Derived.Test.YtofkgceenppdbaaConf2
namespace Go.Proofs.Ytofkgceenppdbaa
open Go.RowKit
set_option linter.unusedVariables false
set_option linter.unusedSimpArgs false
theorem zero_seen (w : World) : (zeroValue 118).run Try.prog w = .ok (.agg (sc fun _ => false)) w := by kernel_rfl
theorem seen_zero (C : Cfg) : seenB C 0 = fun _ => false := by funext i; rfl
/-- numbers' end, where something gave up -/
theorem door_bad (C : Cfg) (w W : World) (tmps : Array Value) (B : Nat) (hE : W.heap[B]? = some (.cells #[.int .i64 0] 29 (0, 0))) (hB : Below w.heap.size w W) (hw : w.heap.size ≤ B) (htm : tmps[2]? = some (.pointer (some ⟨B, 0, none⟩))) (hbad : ¬ NumOk C) :
    bodyPostD Try.prog Try.f42 (fun e w' => e = .returned (.int .i64 (numE C)) ∧ Below w.heap.size w w') (Exit.panic [wrongE 2])
      { tmps := tmps, defers := [{ target := Target.fn (Fn.func 60) #[], args := #[.pointer (some ⟨B, 0, none⟩)] }] } W := by
  have h1 : W.cell? ⟨B, 0, none⟩ = some (.int .i64 0) := (bk_cell hE 0).trans rfl
  have h2 : W.frozen? ⟨B, 0, none⟩ = false := bk_frozen hE 0
  have h3 : (W.setCell ⟨B, 0, none⟩ (.int .i64 2)).cell? ⟨B, 0, none⟩ = some (.int .i64 2) := (bk_cell (bk_set hE 0 (.int .i64 2)) 0).trans rfl
  refine leaves_cons (f := 60) (args := #[.pointer (some ⟨B, 0, none⟩)]) (by simp) (by simp [go_sem]) ?_
  refine (caught_panicking ⟨B, 0, none⟩ 0 2 [] _ h1 h2).mono ?_
  rintro e u' w'' ⟨rfl, rfl, rfl⟩
  have h4 : Below w.heap.size w (W.setCell ⟨B, 0, none⟩ (.int .i64 2)) := hB.setCell hw _
  rw [numE_bad hbad]
  generalize W.setCell ⟨B, 0, none⟩ (.int .i64 2) = W' at *
  simp [Leaves, settle, results, Try.results42, go_sem, htm, h3]
  exact h4
/-- numbers' end, where all was well -/
theorem door_good (C : Cfg) (w W : World) (tmps : Array Value) (B : Nat) (hE : W.cell? ⟨B, 0, none⟩ = some (.int .i64 0)) (hB : Below w.heap.size w W) (htm : tmps[2]? = some (.pointer (some ⟨B, 0, none⟩))) (hok : NumOk C) :
    bodyPostD Try.prog Try.f42 (fun e w' => e = .returned (.int .i64 (numE C)) ∧ Below w.heap.size w w') Exit.ret
      { tmps := tmps, defers := [{ target := Target.fn (Fn.func 60) #[], args := #[.pointer (some ⟨B, 0, none⟩)] }] } W := by
  refine leaves_cons (f := 60) (args := #[.pointer (some ⟨B, 0, none⟩)]) (by simp) (by simp [go_sem]) ?_
  refine (caught_idle ⟨B, 0, none⟩ _).mono ?_
  rintro e u' w'' ⟨rfl, rfl, rfl⟩
  rw [numE_ok hok]
  simp [Leaves, settle, results, Try.results42, go_sem, htm, hE]
  exact hB
set_option maxRecDepth 100000 in
set_option maxHeartbeats 16000000 in
theorem numbers_any (C : Cfg) (l : Lay) (w : World) (h : IsC w C l) (hN : C.nP ≤ 1000000 ∧ C.nW ≤ 1000000 ∧ C.nC ≤ 1000000) :
    Calls Try.prog 42 #[.agg (cfgV C l)] w fun e w' => e = .returned (.int .i64 (numE C)) ∧ Below w.heap.size w w' := by
  obtain ⟨hP, hW, hC⟩ := h
  have HP := Lib.hid hP
  have HW := Lib.hid hW
  have HC := Lib.hid hC
  clear hP hW hC
  obtain ⟨pP, cP, pW, cW, pC, cC⟩ := l
  unfold cfgV
  simp only at *
  obtain ⟨z1, z2, z3⟩ := hN
  have hzs := zero_seen
  go_enter_defers Try.func42, Try.ntmps42
  go_wp2_with fail
  refine calls_abs (fun V => V.heap[w.heap.size]? = some (.cells #[.slice pP C.nP cP, .slice pW C.nW cW, .slice pC C.nC cC] 26 (0, 0)) ∧ V.heap[w.heap.size + 1]? = some (.cells #[.int .i64 0] 29 (0, 0)) ∧ Below w.heap.size w V ∧ V.heap.size = w.heap.size + 2) ⟨bk_alloc (bk_new w _) _, ?_, by go_grown, by simp⟩ ?_
  · have := bk_new (w.alloc (.cells #[.slice pP C.nP cP, .slice pW C.nW cW, .slice pC C.nC cC] 26)) (.cells #[.int .i64 0] 29)
    rwa [World.size_alloc] at this
  rintro V ⟨hv0, hv1, hvB, hvz⟩
  have HV0 := Lib.hid hv0
  have HV1 := Lib.hid hv1
  have HVB := Lib.hid hvB
  have hvl : w.heap.size + 1 < V.heap.size := by omega
  have c0 : V.cell? ⟨w.heap.size, 0, none⟩ = some (.slice pP C.nP cP) := (bk_cell hv0 0).trans rfl
  have c1 : V.cell? ⟨w.heap.size, 1, none⟩ = some (.slice pW C.nW cW) := (bk_cell hv0 1).trans rfl
  have c2 : V.cell? ⟨w.heap.size, 2, none⟩ = some (.slice pC C.nC cC) := (bk_cell hv0 2).trans rfl
  have HC0 := Lib.hid c0
  have HC1 := Lib.hid c1
  have HC2 := Lib.hid c2
  clear hv0 hv1 hvB hvz
  refine (in_any _ _ _ _).mono ?_; rintro e w1 ⟨rfl, rfl⟩
  cases a1 : inB C.nP 1 8 with
  | false =>
    have hbad : ¬ NumOk C := fun h => by have := h.1; simp [okN, a1] at this
    have HB := Lib.hid hbad
    clear hbad a1
    go_wp2_with fail
    refine (must_no _ _).mono ?_; rintro e w2 ⟨rfl, rfl⟩
    go_wp2
    exact door_bad C w _ _ _ HV1.out HVB.out (by omega) rfl HB.out
  | true =>
  have hnP : 1 ≤ C.nP ∧ C.nP ≤ 8 := by simp [inB] at a1; omega
  have HA1 := Lib.hid a1
  clear a1
  go_wp2_with fail
  refine (in_any _ _ _ _).mono ?_; rintro e w2 ⟨rfl, rfl⟩
  cases a2 : inB C.nW 1 32 with
  | false =>
    have hbad : ¬ NumOk C := fun h => by have := h.1; simp [okN, a2] at this
    have HB := Lib.hid hbad
    clear hbad a2
    go_wp2_with fail
    refine (must_no _ _).mono ?_; rintro e w2 ⟨rfl, rfl⟩
    go_wp2
    exact door_bad C w _ _ _ HV1.out HVB.out (by omega) rfl HB.out
  | true =>
  have hnW : 1 ≤ C.nW ∧ C.nW ≤ 32 := by simp [inB] at a2; omega
  have HA2 := Lib.hid a2
  clear a2
  by_cases a3 : C.nC ≤ 16
  case neg =>
    have hbad : ¬ NumOk C := fun h => by have := h.1; simp [okN, a3] at this
    have HB := Lib.hid hbad
    have a3' : decide ((C.nC : Int) ≤ 16) = false := decide_eq_false (by omega)
    have a3n : decide (C.nC ≤ 16) = false := decide_eq_false a3
    clear hbad a3
    go_wp2_with fail
    refine (must_no _ _).mono ?_; rintro e w2 ⟨rfl, rfl⟩
    go_wp2
    exact door_bad C w _ _ _ HV1.out HVB.out (by omega) rfl HB.out
  case pos =>
  have a3' : decide ((C.nC : Int) ≤ 16) = true := decide_eq_true (by omega)
  have a3n : decide (C.nC ≤ 16) = true := decide_eq_true a3
  have hokN : okN C = true := by simp [okN, HA1.out, HA2.out, a3]
  have HON := Lib.hid hokN
  clear hokN
  go_wp2_with fail
  refine (must_yes _ _).mono ?_; rintro e w3 ⟨rfl, rfl⟩
  go_wp2_with fail
  go_loopw [30] (fun n W' => ∃ k : Nat, k ≤ C.nP ∧ n = .int .i64 k ∧ Hid (∀ j, j < k → okP C j = true) ∧ Below w3.heap.size w3 W') (fun n _ => C.nP - (intOf n).toNat)
  case atStart => exact ⟨0, by omega, rfl, Lib.hid fun j hj => by omega, Below.refl _ _⟩
  case round =>
    obtain ⟨k, hk, rfl, HF, hb⟩ := hrel
    have HB1 := Lib.hid hb
    have HE1 := Lib.hid (bk_below HV1.out hb)
    have HBW := Lib.hid (HVB.out.trans (hb.mono (by omega)))
    have hz1 := hb.size
    by_cases hkn : k < C.nP
    · have hkn' : (k : Int) < C.nP := by omega
      rcases HP.out with h0 | ⟨b, o, e5, hc⟩
      · omega
      subst e5
      have x0 := keepc HBW.out (hc k hkn).1
      have x1 := keepc HBW.out (hc k hkn).2
      clear hc hb
      go_wp2_with fail
      refine (in_any _ _ _ _).mono ?_; rintro e w4 ⟨rfl, rfl⟩
      cases b1 : inB (C.q k) 4 256 with
      | false =>
        have hbad : ¬ NumOk C := fun h => by have := h.2.1 k hkn; simp [okP, b1] at this
        have HB := Lib.hid hbad
        clear hbad b1
        go_wp2_with fail
        refine (must_no _ _).mono ?_; rintro e w2 ⟨rfl, rfl⟩
        go_wp2
        exact door_bad C w _ _ _ (bk_alloc HE1.out _) (HBW.out.alloc (by omega) _) (by omega) rfl HB.out
      | true =>
        have HB1' := Lib.hid b1
        clear b1
        go_wp2_with fail
        refine (in_any _ _ _ _).mono ?_; rintro e w4 ⟨rfl, rfl⟩
        cases b2 : inB (C.s k) 1 8 with
        | false =>
          have hbad : ¬ NumOk C := fun h => by have := h.2.1 k hkn; simp [okP, b2] at this
          have HB := Lib.hid hbad
          clear hbad b2
          go_wp2_with fail
          refine (must_no _ _).mono ?_; rintro e w2 ⟨rfl, rfl⟩
          go_wp2
          exact door_bad C w _ _ _ (bk_alloc HE1.out _) (HBW.out.alloc (by omega) _) (by omega) rfl HB.out
        | true =>
          have hok : okP C k = true := by simp [okP, HB1'.out, b2]
          have HOK := Lib.hid hok
          clear b2 hok
          go_wp2_with fail
          refine (must_yes _ _).mono ?_; rintro e w5 ⟨rfl, rfl⟩
          go_wp2
          refine ⟨⟨k + 1, by omega, by go_num, Lib.hid fun j hj => ?_, HB1.out.alloc HB1.out.size _⟩, by simp [intOf]; omega⟩
          by_cases e : j = k
          · rw [e]; exact HOK.out
          · exact HF.out j (by omega)
    · have hkn2 : k = C.nP := by omega
      subst hkn2
      obtain ⟨wo, rfl⟩ : ∃ wo : World, wo = wr := ⟨_, rfl⟩
      have HFP := HF
      have d1 := keepc HB1.out HC1.out
      have D0 := Lib.hid (keepc HB1.out HC0.out)
      have D1 := Lib.hid d1
      have D2 := Lib.hid (keepc HB1.out HC2.out)
      have HS3 := Lib.hid (bk_new wo (.cells (sc fun _ => false) 118))
      have HBS := Lib.hid (show Below wo.heap.size wo (wo.alloc (.cells (sc fun _ => false) 118)) from (Below.refl _ _).alloc (Nat.le_refl _) _)
      have s1 : IntKind.i64.wrap ((C.nP : Int) - 1) = (C.nP : Int) - 1 := IntWalk.i64_in _ (by omega)
      have e1' := keepc (HBS.out) d1
      clear hb d1
      go_wp2_with fail
      go_loopw [47] (fun n W' => ∃ k : Nat, k ≤ C.nW ∧ n = .int .i64 k ∧ Hid (∀ j, j < k → okW C j = true) ∧ W'.heap[wo.heap.size]? = some (.cells (sc (seenB C k)) 118 (0, 0)) ∧ Below wo.heap.size wo W') (fun n _ => C.nW - (intOf n).toNat)
      case atStart => exact ⟨0, by omega, rfl, Lib.hid fun j hj => by omega, by rw [seen_zero]; exact HS3.out, HBS.out⟩
      case round =>
        obtain ⟨k, hk, rfl, HF2, hs2, hb2⟩ := hrel
        have hsl := bk_lt hs2
        have HS2 := Lib.hid hs2
        have HB2 := Lib.hid hb2
        have HE2 := Lib.hid (bk_below HE1.out hb2)
        have HBW2 := Lib.hid (HBW.out.trans (hb2.mono (by omega)))
        have hz2 := hb2.size
        have d0 := keepc hb2 D0.out
        have hlt0 : w.heap.size < wr.heap.size := by omega
        have hlt1 : wo.heap.size < wr.heap.size := by omega
        clear hs2 hb2 e1'
        by_cases hkn : k < C.nW
        · have hkn' : (k : Int) < C.nW := by omega
          rcases HW.out with h0 | ⟨b, o, e5, hc⟩
          · omega
          subst e5
          have x0 := keepc HBW2.out (hc k hkn).1
          have x1 := keepc HBW2.out (hc k hkn).2
          clear hc
          go_wp2_with fail
          refine (in_any _ _ _ _).mono ?_; rintro e w4 ⟨rfl, rfl⟩
          cases b1 : inB (C.wp k) 0 ((C.nP : Int) - 1) with
          | false =>
            have hbad : ¬ NumOk C := fun h => by have := h.2.2.1 k hkn; simp [okW, b1] at this
            have HB := Lib.hid hbad
            clear hbad b1
            go_wp2_with fail
            refine (must_no _ _).mono ?_; rintro e w2 ⟨rfl, rfl⟩
            go_wp2
            exact door_bad C w _ _ _ (bk_alloc HE2.out _) (HBW2.out.alloc (by omega) _) (by omega) rfl HB.out
          | true =>
            have HB1' := Lib.hid b1
            have hpb : 0 ≤ C.wp k ∧ C.wp k ≤ (C.nP : Int) - 1 := by simp [inB] at b1; omega
            clear b1
            go_wp2_with fail
            refine (in_any _ _ _ _).mono ?_; rintro e w4 ⟨rfl, rfl⟩
            cases b2 : inB (C.wt k) 1 255 with
            | false =>
              have hbad : ¬ NumOk C := fun h => by have := h.2.2.1 k hkn; simp [okW, b2] at this
              have HB := Lib.hid hbad
              clear hbad b2
              go_wp2_with fail
              refine (must_no _ _).mono ?_; rintro e w2 ⟨rfl, rfl⟩
              go_wp2
              exact door_bad C w _ _ _ (bk_alloc HE2.out _) (HBW2.out.alloc (by omega) _) (by omega) rfl HB.out
            | true =>
              have hok : okW C k = true := by simp [okW, HB1'.out, b2]
              have HOK := Lib.hid hok
              clear b2 hok
              obtain ⟨q, hq⟩ : ∃ q : Nat, C.wp k = q := ⟨(C.wp k).toNat, by omega⟩
              have hq8 : q < 8 := by omega
              have hq8' : (q : Int) < 8 := by omega
              have hstep := seen_step C k q hq
              have HST := Lib.hid hstep
              go_wp2_with fail
              refine (must_yes _ _).mono ?_; rintro e w5 ⟨rfl, rfl⟩
              have hs5 := bk_alloc HS2.out (.cells #[.int .i64 (C.wp k), .int .i64 (C.wt k)] 107)
              have y1 := (bk_cell hs5 q).trans (sc_at _ q hq8)
              have y2 : (wr.alloc (.cells #[.int .i64 (C.wp k), .int .i64 (C.wt k)] 107)).frozen? ⟨wo.heap.size, q, none⟩ = false := bk_frozen hs5 q
              have HS5 := Lib.hid hs5
              rw [hq] at y1 y2
              clear hstep hs5
              go_wp2
              refine ⟨⟨k + 1, by omega, by go_num, Lib.hid fun j hj => ?_, ?_, ?_⟩, by simp [intOf]; omega⟩
              · by_cases e : j = k
                · rw [e]; exact HOK.out
                · exact HF2.out j (by omega)
              · have h9 := bk_set HS2.out q (.bool true)
                rw [sc_set _ q hq8, HST.out] at h9
                exact bk_alloc h9 _
              · exact (HB2.out.setCell (p := ⟨wo.heap.size, q, none⟩) (Nat.le_refl _) _).alloc (by simp; omega) _
        · have hkn2 : k = C.nW := by omega
          subst hkn2
          obtain ⟨wm, rfl⟩ : ∃ wm : World, wm = wr := ⟨_, rfl⟩
          have hcells : ∀ i, i < C.nP → wm.cell? ⟨wo.heap.size, i, none⟩ = some (.bool (seenB C C.nW i)) := fun i hi => (bk_cell HS2.out i).trans (sc_at _ i (by omega))
          have HCE := Lib.hid hcells
          have t1 : (C.nP : Int) ≤ 8 := by omega
          have d2 := Lib.hid (keepc HB2.out D2.out)
          clear hcells
          by_cases hall : ∀ i, i < C.nP → seenB C C.nW i = true
          case neg =>
            have hx : ∃ i, i < C.nP ∧ seenB C C.nW i = false := by
              refine Classical.byContradiction fun hno => hall fun i hi => ?_
              cases hs : seenB C C.nW i with
              | true => rfl
              | false => exact absurd ⟨i, hi, hs⟩ hno
            have hbad : ¬ NumOk C := fun h => hall h.2.2.2.1
            have HX := Lib.hid hx
            have HB := Lib.hid hbad
            clear hbad hall hx
            go_wp2_with fail
            refine (contains_lacks wo.heap.size (seenB C C.nW) C.nP _ HCE.out (by omega) HX.out).mono ?_; rintro e w4 ⟨rfl, rfl⟩
            go_wp2_with fail
            refine (must_no _ _).mono ?_; rintro e w2 ⟨rfl, rfl⟩
            go_wp2
            exact door_bad C w _ _ _ HE2.out HBW2.out (by omega) rfl HB.out
          case pos =>
          have HALL := Lib.hid hall
          clear hall
          go_wp2_with fail
          refine (contains_all wo.heap.size (seenB C C.nW) C.nP _ HCE.out (by omega) HALL.out).mono ?_; rintro e w4 ⟨rfl, rfl⟩
          go_wp2_with fail
          refine (must_yes _ _).mono ?_; rintro e w5 ⟨rfl, rfl⟩
          have d2' := d2.out
          go_wp2_with fail
          go_loopw [78] (fun n W' => ∃ k : Nat, k ≤ C.nC ∧ n = .int .i64 k ∧ Hid (∀ j, j < k → okC C j = true) ∧ Below w5.heap.size w5 W') (fun n _ => C.nC - (intOf n).toNat)
          case atStart => exact ⟨0, by omega, rfl, Lib.hid fun j hj => by omega, Below.refl _ _⟩
          case round =>
            obtain ⟨k, hk, rfl, HF3, hb3⟩ := hrel
            have HB3 := Lib.hid hb3
            have HE3 := Lib.hid (bk_below HE2.out hb3)
            have HBW3 := Lib.hid (HBW2.out.trans (hb3.mono (by omega)))
            have hz3 := hb3.size
            have d3 := keepc hb3 d0
            have hlt3 : w.heap.size < wr.heap.size := by omega
            have hlt4 : w.heap.size + 1 < wr.heap.size := by omega
            clear hb3 d2' d0
            by_cases hkn : k < C.nC
            · have hkn' : (k : Int) < C.nC := by omega
              rcases HC.out with h0 | ⟨b, o, e5, hc⟩
              · omega
              subst e5
              have x0 := keepc HBW3.out (hc k hkn).1
              have x1 := keepc HBW3.out (hc k hkn).2.1
              have x2 := keepc HBW3.out (hc k hkn).2.2.1
              have x3 := keepc HBW3.out (hc k hkn).2.2.2
              clear hc
              have hbadof : okC C k = false → ¬ NumOk C := fun hf h => by have := h.2.2.2.2 k hkn; rw [hf] at this; cases this
              have HBAD := Lib.hid hbadof
              clear hbadof
              go_wp2_with fail
              refine (in_any _ _ _ _).mono ?_; rintro e w4 ⟨rfl, rfl⟩
              cases b1 : inB (C.cf k) 0 ((C.nP : Int) - 1) with
              | false =>
                have HB := Lib.hid (HBAD.out (by simp [okC, b1]))
                clear b1
                go_wp2_with fail
                refine (must_no _ _).mono ?_; rintro e w2 ⟨rfl, rfl⟩
                go_wp2
                exact door_bad C w _ _ _ (bk_alloc HE3.out _) (HBW3.out.alloc (by omega) _) (by omega) rfl HB.out
              | true =>
              have K1 := Lib.hid b1
              clear b1
              go_wp2_with fail
              refine (in_any _ _ _ _).mono ?_; rintro e w4 ⟨rfl, rfl⟩
              cases b2 : inB (C.ct k) 0 ((C.nP : Int) - 1) with
              | false =>
                have HB := Lib.hid (HBAD.out (by simp [okC, b2]))
                clear b2
                go_wp2_with fail
                refine (must_no _ _).mono ?_; rintro e w2 ⟨rfl, rfl⟩
                go_wp2
                exact door_bad C w _ _ _ (bk_alloc HE3.out _) (HBW3.out.alloc (by omega) _) (by omega) rfl HB.out
              | true =>
              have K2 := Lib.hid b2
              clear b2
              cases b3 : (C.cf k != C.ct k) with
              | false =>
                have HB := Lib.hid (HBAD.out (by simp [okC, b3]))
                go_wp2_with fail
                refine (must_no _ _).mono ?_; rintro e w2 ⟨rfl, rfl⟩
                go_wp2
                exact door_bad C w _ _ _ (bk_alloc HE3.out _) (HBW3.out.alloc (by omega) _) (by omega) rfl HB.out
              | true =>
              go_wp2_with fail
              refine (in_any _ _ _ _).mono ?_; rintro e w4 ⟨rfl, rfl⟩
              have K3 := Lib.hid b3
              clear b3
              cases b4 : inB (C.cc k) 1 8 with
              | false =>
                have HB := Lib.hid (HBAD.out (by simp [okC, b4]))
                clear b4
                go_wp2_with fail
                refine (must_no _ _).mono ?_; rintro e w2 ⟨rfl, rfl⟩
                go_wp2
                exact door_bad C w _ _ _ (bk_alloc HE3.out _) (HBW3.out.alloc (by omega) _) (by omega) rfl HB.out
              | true =>
              have K4 := Lib.hid b4
              clear b4
              go_wp2_with fail
              refine (in_any _ _ _ _).mono ?_; rintro e w4 ⟨rfl, rfl⟩
              cases b5 : inB (C.cw k) 1 8 with
              | false =>
                have HB := Lib.hid (HBAD.out (by simp [okC, b5]))
                clear b5
                go_wp2_with fail
                refine (must_no _ _).mono ?_; rintro e w2 ⟨rfl, rfl⟩
                go_wp2
                exact door_bad C w _ _ _ (bk_alloc HE3.out _) (HBW3.out.alloc (by omega) _) (by omega) rfl HB.out
              | true =>
              have hok : okC C k = true := by simp only [okC, K1.out, K2.out, K3.out, K4.out, b5]; rfl
              have HOK := Lib.hid hok
              clear b5 hok
              go_wp2_with fail
              refine (must_yes _ _).mono ?_; rintro e w6 ⟨rfl, rfl⟩
              go_wp2
              refine ⟨⟨k + 1, by omega, by go_num, Lib.hid fun j hj => ?_, HB3.out.alloc HB3.out.size _⟩, by simp [intOf]; omega⟩
              by_cases e : j = k
              · rw [e]; exact HOK.out
              · exact HF3.out j (by omega)
            · have hkn2 : k = C.nC := by omega
              have hok : NumOk C := ⟨HON.out, HFP.out, HF2.out, HALL.out, by rw [← hkn2]; exact HF3.out⟩
              have HOK := Lib.hid hok
              have hkn' : ¬ (k : Int) < C.nC := by omega
              have y1 : wr.cell? ⟨w.heap.size + 1, 0, none⟩ = some (.int .i64 0) := (bk_cell HE3.out 0).trans rfl
              have y2 : wr.frozen? ⟨w.heap.size + 1, 0, none⟩ = false := bk_frozen HE3.out 0
              clear hok hkn2
              go_wp2
              exact door_good C w _ _ _ ((bk_cell (bk_set HE3.out 0 (.int .i64 0)) 0).trans rfl) (HBW3.out.setCell (p := ⟨w.heap.size + 1, 0, none⟩) (Nat.le_succ _) _) rfl HOK.out
end Go.Proofs.Ytofkgceenppdbaa
