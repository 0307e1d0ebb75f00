/- Helper text of this seat (ZB): contracts of functions of the given program and of its references, and the laws' plain parts, each told by its theorem. Conditions: as each theorem names them. -/
import Derived.Test.YthgoighpmnecbaaZA
import Derived.Deep.QuietTactic
import Derived.BigQuiet
namespace Go.Proofs.Ythgoighpmnecbaa
open Go.RowKit
set_option linter.unusedVariables false
set_option linter.unusedSimpArgs false
theorem zero_seen (w : World) : (zeroValue 98).run Try.prog w = .ok (.agg (sc fun _ => false)) w := by kernel_rfl
theorem seen_zero (C : Cfg) : seenB C 0 = fun _ => false := by funext i; rfl
/-- numbers' end, where something gave up -/
theorem door_bad (C : Cfg) (w W : World) (tmps : Array Value) (B : Nat) (hE : W.heap[B]? = some (.cells #[.int .i64 0] 29 (0, 0))) (hB : Below w.heap.size w W) (hw : w.heap.size ≤ B) (htm : tmps[2]? = some (.pointer (some ⟨B, 0, none⟩))) (hbad : ¬ NumOk C) :
    bodyPostD Try.prog Try.f33 (fun e w' => e = .returned (.int .i64 (numE C)) ∧ Below w.heap.size w w') (Exit.panic [wrongE 2])
      { tmps := tmps, defers := [{ target := Target.fn (Fn.func 58) #[], args := #[.pointer (some ⟨B, 0, none⟩)] }] } W := by
  have h1 : W.cell? ⟨B, 0, none⟩ = some (.int .i64 0) := (bk_cell hE 0).trans rfl
  have h2 : W.frozen? ⟨B, 0, none⟩ = false := bk_frozen hE 0
  have h3 : (W.setCell ⟨B, 0, none⟩ (.int .i64 2)).cell? ⟨B, 0, none⟩ = some (.int .i64 2) := (bk_cell (bk_set hE 0 (.int .i64 2)) 0).trans rfl
  refine leaves_cons (f := 58) (args := #[.pointer (some ⟨B, 0, none⟩)]) (by simp) (by simp [go_sem]) ?_
  refine (caught_panicking ⟨B, 0, none⟩ 0 2 [] _ h1 h2).mono ?_
  rintro e u' w'' ⟨rfl, rfl, rfl⟩
  have h4 : Below w.heap.size w (W.setCell ⟨B, 0, none⟩ (.int .i64 2)) := hB.setCell hw _
  rw [numE_bad hbad]
  generalize W.setCell ⟨B, 0, none⟩ (.int .i64 2) = W' at *
  simp [Leaves, settle, results, Try.results33, go_sem, htm, h3]
  exact h4
/-- numbers' end, where all was well -/
theorem door_good (C : Cfg) (w W : World) (tmps : Array Value) (B : Nat) (hE : W.cell? ⟨B, 0, none⟩ = some (.int .i64 0)) (hB : Below w.heap.size w W) (htm : tmps[2]? = some (.pointer (some ⟨B, 0, none⟩))) (hok : NumOk C) :
    bodyPostD Try.prog Try.f33 (fun e w' => e = .returned (.int .i64 (numE C)) ∧ Below w.heap.size w w') Exit.ret
      { tmps := tmps, defers := [{ target := Target.fn (Fn.func 58) #[], args := #[.pointer (some ⟨B, 0, none⟩)] }] } W := by
  refine leaves_cons (f := 58) (args := #[.pointer (some ⟨B, 0, none⟩)]) (by simp) (by simp [go_sem]) ?_
  refine (caught_idle ⟨B, 0, none⟩ _).mono ?_
  rintro e u' w'' ⟨rfl, rfl, rfl⟩
  rw [numE_ok hok]
  simp [Leaves, settle, results, Try.results33, go_sem, htm, hE]
  exact hB
set_option maxRecDepth 100000 in
set_option maxHeartbeats 16000000 in
theorem numbers_any (C : Cfg) (l : Lay) (w : World) (h : IsC w C l) (hN : C.nP ≤ 1000000 ∧ C.nW ≤ 1000000 ∧ C.nC ≤ 1000000) :
    Calls Try.prog 33 #[.agg (cfgV C l)] w fun e w' => e = .returned (.int .i64 (numE C)) ∧ Below w.heap.size w w' := by
  obtain ⟨hP, hW, hC⟩ := h
  have HP := Lib.hid hP
  have HW := Lib.hid hW
  have HC := Lib.hid hC
  clear hP hW hC
  obtain ⟨pP, cP, pW, cW, pC, cC⟩ := l
  unfold cfgV
  simp only at *
  obtain ⟨z1, z2, z3⟩ := hN
  have hzs := zero_seen
  go_enter_defers Try.func33, Try.ntmps33
  go_wp2_with fail
  refine calls_abs (fun V => V.heap[w.heap.size]? = some (.cells #[.slice pP C.nP cP, .slice pW C.nW cW, .slice pC C.nC cC] 26 (0, 0)) ∧ V.heap[w.heap.size + 1]? = some (.cells #[.int .i64 0] 29 (0, 0)) ∧ Below w.heap.size w V ∧ V.heap.size = w.heap.size + 2) ⟨bk_alloc (bk_new w _) _, ?_, by go_grown, by simp⟩ ?_
  · have := bk_new (w.alloc (.cells #[.slice pP C.nP cP, .slice pW C.nW cW, .slice pC C.nC cC] 26)) (.cells #[.int .i64 0] 29)
    rwa [World.size_alloc] at this
  rintro V ⟨hv0, hv1, hvB, hvz⟩
  have HV0 := Lib.hid hv0
  have HV1 := Lib.hid hv1
  have HVB := Lib.hid hvB
  have hvl : w.heap.size + 1 < V.heap.size := by omega
  have c0 : V.cell? ⟨w.heap.size, 0, none⟩ = some (.slice pP C.nP cP) := (bk_cell hv0 0).trans rfl
  have c1 : V.cell? ⟨w.heap.size, 1, none⟩ = some (.slice pW C.nW cW) := (bk_cell hv0 1).trans rfl
  have c2 : V.cell? ⟨w.heap.size, 2, none⟩ = some (.slice pC C.nC cC) := (bk_cell hv0 2).trans rfl
  have HC0 := Lib.hid c0
  have HC1 := Lib.hid c1
  have HC2 := Lib.hid c2
  clear hv0 hv1 hvB hvz
  refine (in_any _ _ _ _).mono ?_; rintro e w1 ⟨rfl, rfl⟩
  cases a1 : inB C.nP 1 8 with
  | false =>
    have hbad : ¬ NumOk C := fun h => by have := h.1; simp [okN, a1] at this
    have HB := Lib.hid hbad
    clear hbad a1
    go_wp2_with fail
    refine (must_no _ _).mono ?_; rintro e w2 ⟨rfl, rfl⟩
    go_wp2
    exact door_bad C w _ _ _ HV1.out HVB.out (by omega) rfl HB.out
  | true =>
  have hnP : 1 ≤ C.nP ∧ C.nP ≤ 8 := by simp [inB] at a1; omega
  have HA1 := Lib.hid a1
  clear a1
  go_wp2_with fail
  refine (in_any _ _ _ _).mono ?_; rintro e w2 ⟨rfl, rfl⟩
  cases a2 : inB C.nW 1 32 with
  | false =>
    have hbad : ¬ NumOk C := fun h => by have := h.1; simp [okN, a2] at this
    have HB := Lib.hid hbad
    clear hbad a2
    go_wp2_with fail
    refine (must_no _ _).mono ?_; rintro e w2 ⟨rfl, rfl⟩
    go_wp2
    exact door_bad C w _ _ _ HV1.out HVB.out (by omega) rfl HB.out
  | true =>
  have hnW : 1 ≤ C.nW ∧ C.nW ≤ 32 := by simp [inB] at a2; omega
  have HA2 := Lib.hid a2
  clear a2
  by_cases a3 : C.nC ≤ 16
  case neg =>
    have hbad : ¬ NumOk C := fun h => by have := h.1; simp [okN, a3] at this
    have HB := Lib.hid hbad
    have a3' : decide ((C.nC : Int) ≤ 16) = false := decide_eq_false (by omega)
    have a3n : decide (C.nC ≤ 16) = false := decide_eq_false a3
    clear hbad a3
    go_wp2_with fail
    refine (must_no _ _).mono ?_; rintro e w2 ⟨rfl, rfl⟩
    go_wp2
    exact door_bad C w _ _ _ HV1.out HVB.out (by omega) rfl HB.out
  case pos =>
  have a3' : decide ((C.nC : Int) ≤ 16) = true := decide_eq_true (by omega)
  have a3n : decide (C.nC ≤ 16) = true := decide_eq_true a3
  have hokN : okN C = true := by simp [okN, HA1.out, HA2.out, a3]
  have HON := Lib.hid hokN
  clear hokN
  go_wp2_with fail
  refine (must_yes _ _).mono ?_; rintro e w3 ⟨rfl, rfl⟩
  go_wp2_with fail
  go_loopw [30] (fun n W' => ∃ k : Nat, k ≤ C.nP ∧ n = .int .i64 k ∧ Hid (∀ j, j < k → okP C j = true) ∧ Below w3.heap.size w3 W') (fun n _ => C.nP - (intOf n).toNat)
  case atStart => exact ⟨0, by omega, rfl, Lib.hid fun j hj => by omega, Below.refl _ _⟩
  case round =>
    obtain ⟨k, hk, rfl, HF, hb⟩ := hrel
    have HB1 := Lib.hid hb
    have HE1 := Lib.hid (bk_below HV1.out hb)
    have HBW := Lib.hid (HVB.out.trans (hb.mono (by omega)))
    have hz1 := hb.size
    by_cases hkn : k < C.nP
    · have hkn' : (k : Int) < C.nP := by omega
      rcases HP.out with h0 | ⟨b, o, e5, hc⟩
      · omega
      subst e5
      have x0 := keepc HBW.out (hc k hkn).1
      have x1 := keepc HBW.out (hc k hkn).2
      clear hc hb
      go_wp2_with fail
      refine (in_any _ _ _ _).mono ?_; rintro e w4 ⟨rfl, rfl⟩
      cases b1 : inB (C.q k) 4 256 with
      | false =>
        have hbad : ¬ NumOk C := fun h => by have := h.2.1 k hkn; simp [okP, b1] at this
        have HB := Lib.hid hbad
        clear hbad b1
        go_wp2_with fail
        refine (must_no _ _).mono ?_; rintro e w2 ⟨rfl, rfl⟩
        go_wp2
        exact door_bad C w _ _ _ (bk_alloc HE1.out _) (HBW.out.alloc (by omega) _) (by omega) rfl HB.out
      | true =>
        have HB1' := Lib.hid b1
        clear b1
        go_wp2_with fail
        refine (in_any _ _ _ _).mono ?_; rintro e w4 ⟨rfl, rfl⟩
        cases b2 : inB (C.s k) 1 8 with
        | false =>
          have hbad : ¬ NumOk C := fun h => by have := h.2.1 k hkn; simp [okP, b2] at this
          have HB := Lib.hid hbad
          clear hbad b2
          go_wp2_with fail
          refine (must_no _ _).mono ?_; rintro e w2 ⟨rfl, rfl⟩
          go_wp2
          exact door_bad C w _ _ _ (bk_alloc HE1.out _) (HBW.out.alloc (by omega) _) (by omega) rfl HB.out
        | true =>
          have hok : okP C k = true := by simp [okP, HB1'.out, b2]
          have HOK := Lib.hid hok
          clear b2 hok
          go_wp2_with fail
          refine (must_yes _ _).mono ?_; rintro e w5 ⟨rfl, rfl⟩
          go_wp2
          refine ⟨⟨k + 1, by omega, by go_num, Lib.hid fun j hj => ?_, HB1.out.alloc HB1.out.size _⟩, by simp [intOf]; omega⟩
          by_cases e : j = k
          · rw [e]; exact HOK.out
          · exact HF.out j (by omega)
    · have hkn2 : k = C.nP := by omega
      subst hkn2
      obtain ⟨wo, rfl⟩ : ∃ wo : World, wo = wr := ⟨_, rfl⟩
      have HFP := HF
      have d1 := keepc HB1.out HC1.out
      have D0 := Lib.hid (keepc HB1.out HC0.out)
      have D1 := Lib.hid d1
      have D2 := Lib.hid (keepc HB1.out HC2.out)
      have HS3 := Lib.hid (bk_new wo (.cells (sc fun _ => false) 98))
      have HBS := Lib.hid (show Below wo.heap.size wo (wo.alloc (.cells (sc fun _ => false) 98)) from (Below.refl _ _).alloc (Nat.le_refl _) _)
      have s1 : IntKind.i64.wrap ((C.nP : Int) - 1) = (C.nP : Int) - 1 := IntWalk.i64_in _ (by omega)
      have e1' := keepc (HBS.out) d1
      clear hb d1
      go_wp2_with fail
      go_loopw [47] (fun n W' => ∃ k : Nat, k ≤ C.nW ∧ n = .int .i64 k ∧ Hid (∀ j, j < k → okW C j = true) ∧ W'.heap[wo.heap.size]? = some (.cells (sc (seenB C k)) 98 (0, 0)) ∧ Below wo.heap.size wo W') (fun n _ => C.nW - (intOf n).toNat)
      case atStart => exact ⟨0, by omega, rfl, Lib.hid fun j hj => by omega, by rw [seen_zero]; exact HS3.out, HBS.out⟩
      case round =>
        obtain ⟨k, hk, rfl, HF2, hs2, hb2⟩ := hrel
        have hsl := bk_lt hs2
        have HS2 := Lib.hid hs2
        have HB2 := Lib.hid hb2
        have HE2 := Lib.hid (bk_below HE1.out hb2)
        have HBW2 := Lib.hid (HBW.out.trans (hb2.mono (by omega)))
        have hz2 := hb2.size
        have d0 := keepc hb2 D0.out
        have hlt0 : w.heap.size < wr.heap.size := by omega
        have hlt1 : wo.heap.size < wr.heap.size := by omega
        clear hs2 hb2 e1'
        by_cases hkn : k < C.nW
        · have hkn' : (k : Int) < C.nW := by omega
          rcases HW.out with h0 | ⟨b, o, e5, hc⟩
          · omega
          subst e5
          have x0 := keepc HBW2.out (hc k hkn).1
          have x1 := keepc HBW2.out (hc k hkn).2
          clear hc
          go_wp2_with fail
          refine (in_any _ _ _ _).mono ?_; rintro e w4 ⟨rfl, rfl⟩
          cases b1 : inB (C.wp k) 0 ((C.nP : Int) - 1) with
          | false =>
            have hbad : ¬ NumOk C := fun h => by have := h.2.2.1 k hkn; simp [okW, b1] at this
            have HB := Lib.hid hbad
            clear hbad b1
            go_wp2_with fail
            refine (must_no _ _).mono ?_; rintro e w2 ⟨rfl, rfl⟩
            go_wp2
            exact door_bad C w _ _ _ (bk_alloc HE2.out _) (HBW2.out.alloc (by omega) _) (by omega) rfl HB.out
          | true =>
            have HB1' := Lib.hid b1
            have hpb : 0 ≤ C.wp k ∧ C.wp k ≤ (C.nP : Int) - 1 := by simp [inB] at b1; omega
            clear b1
            go_wp2_with fail
            refine (in_any _ _ _ _).mono ?_; rintro e w4 ⟨rfl, rfl⟩
            cases b2 : inB (C.wt k) 1 255 with
            | false =>
              have hbad : ¬ NumOk C := fun h => by have := h.2.2.1 k hkn; simp [okW, b2] at this
              have HB := Lib.hid hbad
              clear hbad b2
              go_wp2_with fail
              refine (must_no _ _).mono ?_; rintro e w2 ⟨rfl, rfl⟩
              go_wp2
              exact door_bad C w _ _ _ (bk_alloc HE2.out _) (HBW2.out.alloc (by omega) _) (by omega) rfl HB.out
            | true =>
              have hok : okW C k = true := by simp [okW, HB1'.out, b2]
              have HOK := Lib.hid hok
              clear b2 hok
              obtain ⟨q, hq⟩ : ∃ q : Nat, C.wp k = q := ⟨(C.wp k).toNat, by omega⟩
              have hq8 : q < 8 := by omega
              have hq8' : (q : Int) < 8 := by omega
              have hstep := seen_step C k q hq
              have HST := Lib.hid hstep
              go_wp2_with fail
              refine (must_yes _ _).mono ?_; rintro e w5 ⟨rfl, rfl⟩
              have hs5 := bk_alloc HS2.out (.cells #[.int .i64 (C.wp k), .int .i64 (C.wt k)] 44)
              have y1 := (bk_cell hs5 q).trans (sc_at _ q hq8)
              have y2 : (wr.alloc (.cells #[.int .i64 (C.wp k), .int .i64 (C.wt k)] 44)).frozen? ⟨wo.heap.size, q, none⟩ = false := bk_frozen hs5 q
              have HS5 := Lib.hid hs5
              rw [hq] at y1 y2
              clear hstep hs5
              go_wp2
              refine ⟨⟨k + 1, by omega, by go_num, Lib.hid fun j hj => ?_, ?_, ?_⟩, by simp [intOf]; omega⟩
              · by_cases e : j = k
                · rw [e]; exact HOK.out
                · exact HF2.out j (by omega)
              · have h9 := bk_set HS2.out q (.bool true)
                rw [sc_set _ q hq8, HST.out] at h9
                exact bk_alloc h9 _
              · exact (HB2.out.setCell (p := ⟨wo.heap.size, q, none⟩) (Nat.le_refl _) _).alloc (by simp; omega) _
        · have hkn2 : k = C.nW := by omega
          subst hkn2
          obtain ⟨wm, rfl⟩ : ∃ wm : World, wm = wr := ⟨_, rfl⟩
          have hcells : ∀ i, i < C.nP → wm.cell? ⟨wo.heap.size, i, none⟩ = some (.bool (seenB C C.nW i)) := fun i hi => (bk_cell HS2.out i).trans (sc_at _ i (by omega))
          have HCE := Lib.hid hcells
          have t1 : (C.nP : Int) ≤ 8 := by omega
          have d2 := Lib.hid (keepc HB2.out D2.out)
          clear hcells
          by_cases hall : ∀ i, i < C.nP → seenB C C.nW i = true
          case neg =>
            have hx : ∃ i, i < C.nP ∧ seenB C C.nW i = false := by
              refine Classical.byContradiction fun hno => hall fun i hi => ?_
              cases hs : seenB C C.nW i with
              | true => rfl
              | false => exact absurd ⟨i, hi, hs⟩ hno
            have hbad : ¬ NumOk C := fun h => hall h.2.2.2.1
            have HX := Lib.hid hx
            have HB := Lib.hid hbad
            clear hbad hall hx
            go_wp2_with fail
            refine (contains_lacks wo.heap.size (seenB C C.nW) C.nP _ HCE.out (by omega) HX.out).mono ?_; rintro e w4 ⟨rfl, rfl⟩
            go_wp2_with fail
            refine (must_no _ _).mono ?_; rintro e w2 ⟨rfl, rfl⟩
            go_wp2
            exact door_bad C w _ _ _ HE2.out HBW2.out (by omega) rfl HB.out
          case pos =>
          have HALL := Lib.hid hall
          clear hall
          go_wp2_with fail
          refine (contains_all wo.heap.size (seenB C C.nW) C.nP _ HCE.out (by omega) HALL.out).mono ?_; rintro e w4 ⟨rfl, rfl⟩
          go_wp2_with fail
          refine (must_yes _ _).mono ?_; rintro e w5 ⟨rfl, rfl⟩
          have d2' := d2.out
          go_wp2_with fail
          go_loopw [78] (fun n W' => ∃ k : Nat, k ≤ C.nC ∧ n = .int .i64 k ∧ Hid (∀ j, j < k → okC C j = true) ∧ Below w5.heap.size w5 W') (fun n _ => C.nC - (intOf n).toNat)
          case atStart => exact ⟨0, by omega, rfl, Lib.hid fun j hj => by omega, Below.refl _ _⟩
          case round =>
            obtain ⟨k, hk, rfl, HF3, hb3⟩ := hrel
            have HB3 := Lib.hid hb3
            have HE3 := Lib.hid (bk_below HE2.out hb3)
            have HBW3 := Lib.hid (HBW2.out.trans (hb3.mono (by omega)))
            have hz3 := hb3.size
            have d3 := keepc hb3 d0
            have hlt3 : w.heap.size < wr.heap.size := by omega
            have hlt4 : w.heap.size + 1 < wr.heap.size := by omega
            clear hb3 d2' d0
            by_cases hkn : k < C.nC
            · have hkn' : (k : Int) < C.nC := by omega
              rcases HC.out with h0 | ⟨b, o, e5, hc⟩
              · omega
              subst e5
              have x0 := keepc HBW3.out (hc k hkn).1
              have x1 := keepc HBW3.out (hc k hkn).2.1
              have x2 := keepc HBW3.out (hc k hkn).2.2.1
              have x3 := keepc HBW3.out (hc k hkn).2.2.2
              clear hc
              have hbadof : okC C k = false → ¬ NumOk C := fun hf h => by have := h.2.2.2.2 k hkn; rw [hf] at this; cases this
              have HBAD := Lib.hid hbadof
              clear hbadof
              go_wp2_with fail
              refine (in_any _ _ _ _).mono ?_; rintro e w4 ⟨rfl, rfl⟩
              cases b1 : inB (C.cf k) 0 ((C.nP : Int) - 1) with
              | false =>
                have HB := Lib.hid (HBAD.out (by simp [okC, b1]))
                clear b1
                go_wp2_with fail
                refine (must_no _ _).mono ?_; rintro e w2 ⟨rfl, rfl⟩
                go_wp2
                exact door_bad C w _ _ _ (bk_alloc HE3.out _) (HBW3.out.alloc (by omega) _) (by omega) rfl HB.out
              | true =>
              have K1 := Lib.hid b1
              clear b1
              go_wp2_with fail
              refine (in_any _ _ _ _).mono ?_; rintro e w4 ⟨rfl, rfl⟩
              cases b2 : inB (C.ct k) 0 ((C.nP : Int) - 1) with
              | false =>
                have HB := Lib.hid (HBAD.out (by simp [okC, b2]))
                clear b2
                go_wp2_with fail
                refine (must_no _ _).mono ?_; rintro e w2 ⟨rfl, rfl⟩
                go_wp2
                exact door_bad C w _ _ _ (bk_alloc HE3.out _) (HBW3.out.alloc (by omega) _) (by omega) rfl HB.out
              | true =>
              have K2 := Lib.hid b2
              clear b2
              cases b3 : (C.cf k != C.ct k) with
              | false =>
                have HB := Lib.hid (HBAD.out (by simp [okC, b3]))
                go_wp2_with fail
                refine (must_no _ _).mono ?_; rintro e w2 ⟨rfl, rfl⟩
                go_wp2
                exact door_bad C w _ _ _ (bk_alloc HE3.out _) (HBW3.out.alloc (by omega) _) (by omega) rfl HB.out
              | true =>
              go_wp2_with fail
              refine (in_any _ _ _ _).mono ?_; rintro e w4 ⟨rfl, rfl⟩
              have K3 := Lib.hid b3
              clear b3
              cases b4 : inB (C.cc k) 1 8 with
              | false =>
                have HB := Lib.hid (HBAD.out (by simp [okC, b4]))
                clear b4
                go_wp2_with fail
                refine (must_no _ _).mono ?_; rintro e w2 ⟨rfl, rfl⟩
                go_wp2
                exact door_bad C w _ _ _ (bk_alloc HE3.out _) (HBW3.out.alloc (by omega) _) (by omega) rfl HB.out
              | true =>
              have K4 := Lib.hid b4
              clear b4
              go_wp2_with fail
              refine (in_any _ _ _ _).mono ?_; rintro e w4 ⟨rfl, rfl⟩
              cases b5 : inB (C.cw k) 1 8 with
              | false =>
                have HB := Lib.hid (HBAD.out (by simp [okC, b5]))
                clear b5
                go_wp2_with fail
                refine (must_no _ _).mono ?_; rintro e w2 ⟨rfl, rfl⟩
                go_wp2
                exact door_bad C w _ _ _ (bk_alloc HE3.out _) (HBW3.out.alloc (by omega) _) (by omega) rfl HB.out
              | true =>
              have hok : okC C k = true := by simp only [okC, K1.out, K2.out, K3.out, K4.out, b5]; rfl
              have HOK := Lib.hid hok
              clear b5 hok
              go_wp2_with fail
              refine (must_yes _ _).mono ?_; rintro e w6 ⟨rfl, rfl⟩
              go_wp2
              refine ⟨⟨k + 1, by omega, by go_num, Lib.hid fun j hj => ?_, HB3.out.alloc HB3.out.size _⟩, by simp [intOf]; omega⟩
              by_cases e : j = k
              · rw [e]; exact HOK.out
              · exact HF3.out j (by omega)
            · have hkn2 : k = C.nC := by omega
              have hok : NumOk C := ⟨HON.out, HFP.out, HF2.out, HALL.out, by rw [← hkn2]; exact HF3.out⟩
              have HOK := Lib.hid hok
              have hkn' : ¬ (k : Int) < C.nC := by omega
              have y1 : wr.cell? ⟨w.heap.size + 1, 0, none⟩ = some (.int .i64 0) := (bk_cell HE3.out 0).trans rfl
              have y2 : wr.frozen? ⟨w.heap.size + 1, 0, none⟩ = false := bk_frozen HE3.out 0
              clear hok hkn2
              go_wp2
              exact door_good C w _ _ _ ((bk_cell (bk_set HE3.out 0 (.int .i64 0)) 0).trans rfl) (HBW3.out.setCell (p := ⟨w.heap.size + 1, 0, none⟩) (Nat.le_succ _) _) rfl HOK.out
end Go.Proofs.Ythgoighpmnecbaa
namespace Go.Proofs.Ythgoighpmnecbaa
open Go.RowKit
set_option linter.unusedVariables false
set_option linter.unusedSimpArgs false
/-- the frames of a partition, of a channel -/
def fP (C : Cfg) (i : Nat) : Int := C.q i + (C.s i + 2) / 3
def fC (C : Cfg) (i : Nat) : Int := (C.cc i * (C.cw i + 1) + 31) / 32
def sumF (f : Nat → Int) : Nat → Int
  | 0 => 0
  | k + 1 => sumF f k + f k
theorem NumOk.P {C : Cfg} (h : NumOk C) {i : Nat} (hi : i < C.nP) : 4 ≤ C.q i ∧ C.q i ≤ 256 ∧ 1 ≤ C.s i ∧ C.s i ≤ 8 := by
  have := h.2.1 i hi
  simp [okP, inB] at this
  omega
theorem NumOk.W {C : Cfg} (h : NumOk C) {i : Nat} (hi : i < C.nW) : 0 ≤ C.wp i ∧ C.wp i < C.nP ∧ 1 ≤ C.wt i ∧ C.wt i ≤ 255 := by
  have := h.2.2.1 i hi
  simp [okW, inB] at this
  omega
theorem NumOk.C {C : Cfg} (h : NumOk C) {i : Nat} (hi : i < C.nC) : (0 ≤ C.cf i ∧ C.cf i < C.nP) ∧ (0 ≤ C.ct i ∧ C.ct i < C.nP) ∧ C.cf i ≠ C.ct i ∧ (1 ≤ C.cc i ∧ C.cc i ≤ 8) ∧ (1 ≤ C.cw i ∧ C.cw i ≤ 8) := by
  have := h.2.2.2.2 i hi
  simp [okC, inB] at this
  omega
theorem NumOk.N {C : Cfg} (h : NumOk C) : 1 ≤ C.nP ∧ C.nP ≤ 8 ∧ 1 ≤ C.nW ∧ C.nW ≤ 32 ∧ C.nC ≤ 16 := by
  have := h.1
  simp [okN, inB] at this
  omega
/-- how many words a channel takes -/
theorem words_bd {a b : Int} (h1 : 1 ≤ a ∧ a ≤ 8) (h2 : 1 ≤ b ∧ b ≤ 8) : 2 ≤ a * (b + 1) ∧ a * (b + 1) ≤ 72 := by
  have e1 : a * (b + 1) ≤ 8 * (b + 1) := Int.mul_le_mul_of_nonneg_right h1.2 (by omega)
  have e2 : 1 * (b + 1) ≤ a * (b + 1) := Int.mul_le_mul_of_nonneg_right h1.1 (by omega)
  omega
theorem NumOk.fP_bd {C : Cfg} (h : NumOk C) {i : Nat} (hi : i < C.nP) : 5 ≤ fP C i ∧ fP C i ≤ 259 := by
  have := h.P hi
  unfold fP
  omega
theorem NumOk.fC_bd {C : Cfg} (h : NumOk C) {i : Nat} (hi : i < C.nC) : 1 ≤ fC C i ∧ fC C i ≤ 3 := by
  have := h.C hi
  have := words_bd this.2.2.2.1 this.2.2.2.2
  unfold fC
  omega
theorem sumF_bd {f : Nat → Int} {n : Nat} {b : Int} (h : ∀ i, i < n → 0 ≤ f i ∧ f i ≤ b) : ∀ k, k ≤ n → 0 ≤ sumF f k ∧ sumF f k ≤ k * b
  | 0, _ => by simp [sumF]
  | k + 1, hk => by
    have := sumF_bd h k (by omega)
    have := h k (by omega)
    simp only [sumF]
    push_cast
    rw [Int.add_mul, Int.one_mul]
    omega
theorem NumOk.sumP {C : Cfg} (h : NumOk C) {k : Nat} (hk : k ≤ C.nP) : 0 ≤ sumF (fP C) k ∧ sumF (fP C) k ≤ 3000 := by
  have h1 := sumF_bd (f := fP C) (n := C.nP) (b := 259) (fun i hi => by have := h.fP_bd hi; omega) k hk
  have h2 := h.N
  omega
theorem NumOk.sumC {C : Cfg} (h : NumOk C) {k : Nat} (hk : k ≤ C.nC) : 0 ≤ sumF (fC C) k ∧ sumF (fC C) k ≤ 3000 := by
  have h1 := sumF_bd (f := fC C) (n := C.nC) (b := 3) (fun i hi => by have := h.fC_bd hi; omega) k hk
  have h2 := h.N
  omega
open Classical in
noncomputable def frE (C : Cfg) : Int := if NumOk C then sumF (fP C) C.nP + sumF (fC C) C.nC else 0
open Classical in
/-- what Check answers -/
noncomputable def ckE (C : Cfg) : Int := if NumOk C then if 1024 < frE C then 3 else 0 else 2
theorem frE_ok {C : Cfg} (h : NumOk C) : frE C = sumF (fP C) C.nP + sumF (fC C) C.nC := if_pos h
theorem frE_bad {C : Cfg} (h : ¬ NumOk C) : frE C = 0 := if_neg h
/-- may a configuration be? -/
def CkOk (C : Cfg) : Prop := NumOk C ∧ frE C ≤ 1024
theorem ckE_ok {C : Cfg} (h : CkOk C) : ckE C = 0 := by
  unfold ckE
  rw [if_pos h.1, if_neg (by have := h.2; omega)]
theorem ckE_full {C : Cfg} (h : NumOk C) (hf : 1024 < frE C) : ckE C = 3 := by
  unfold ckE
  rw [if_pos h, if_pos hf]
theorem ckE_bad {C : Cfg} (h : ¬ NumOk C) : ckE C = 2 := if_neg h
theorem ckE_cases (C : Cfg) : (CkOk C ∧ ckE C = 0) ∨ (¬ CkOk C ∧ (ckE C = 2 ∨ ckE C = 3)) := by
  by_cases h : NumOk C
  · by_cases hf : 1024 < frE C
    · exact .inr ⟨fun h => by have := h.2; omega, .inr (ckE_full h hf)⟩
    · exact .inl ⟨⟨h, by omega⟩, ckE_ok ⟨h, by omega⟩⟩
  · exact .inr ⟨fun h' => h h'.1, .inl (ckE_bad h)⟩
theorem by3_any (n : Int) (w : World) (h0 : 0 ≤ n) (h1 : n ≤ 100000) :
    Calls Try.prog 35 #[.int .i64 n, .int .i64 3] w fun e w' => e = .returned (.int .i64 ((n + 2) / 3)) ∧ w' = w := by
  have hr : (n + 2) / 3 = (n + 3 - 1) / 3 := by omega
  rw [hr]
  clear hr
  go_enter Try.func35, Try.ntmps35
  go_wp2
  go_ret
  exact ⟨rfl, rfl⟩
theorem by32_any (n : Int) (w : World) (h0 : 0 ≤ n) (h1 : n ≤ 100000) :
    Calls Try.prog 35 #[.int .i64 n, .int .i64 32] w fun e w' => e = .returned (.int .i64 ((n + 31) / 32)) ∧ w' = w := by
  have hr : (n + 31) / 32 = (n + 32 - 1) / 32 := by omega
  rw [hr]
  clear hr
  go_enter Try.func35, Try.ntmps35
  go_wp2
  go_ret
  exact ⟨rfl, rfl⟩
theorem cfgV_one (C : Cfg) (l : Lay) : True := trivial
set_option maxHeartbeats 4000000 in
theorem frames_any (C : Cfg) (l : Lay) (w : World) (h : IsC w C l) (hN : C.nP ≤ 1000000 ∧ C.nW ≤ 1000000 ∧ C.nC ≤ 1000000) :
    Calls Try.prog 15 #[.agg (cfgV C l)] w fun e w' => e = .returned (.int .i64 (frE C)) ∧ Below w.heap.size w w' := by
  have hnum := fun (W : World) (h : IsC W C l) => numbers_any C l W h hN
  obtain ⟨z1, z2, z3⟩ := hN
  have HI := Lib.hid h
  clear h
  obtain ⟨pP, cP, pW, cW, pC, cC⟩ := l
  unfold cfgV at *
  simp only at *
  by_cases hok : NumOk C
  case neg =>
    rw [frE_bad hok]
    rw [numE_bad hok] at hnum
    have HNum := Lib.hid hnum
    clear hnum hok
    go_enter Try.func15, Try.ntmps15
    go_wp2_with fail
    refine (HNum.out _ (by exact HI.out.below (by go_grown))).mono ?_; rintro e w1 ⟨rfl, hb⟩
    go_wp2
    go_ret
    exact ⟨rfl, bstep (by go_grown) hb⟩
  case pos =>
  rw [frE_ok hok]
  rw [numE_ok hok] at hnum
  have HNum := Lib.hid hnum
  have HOK := Lib.hid hok
  have hNN := hok.N
  clear hnum hok
  go_enter Try.func15, Try.ntmps15
  go_wp2_with fail
  refine (HNum.out _ (by exact HI.out.below (by go_grown))).mono ?_; rintro e w1 ⟨rfl, hb⟩
  have hB1 : Below w.heap.size w w1 := bstep (by go_grown) hb
  have hv0 : w1.heap[w.heap.size]? = some (.cells #[.slice pP C.nP cP, .slice pW C.nW cW, .slice pC C.nC cC] 26 (0, 0)) := bk_below (bk_new w _) hb
  have hI1 := HI.out.below hB1
  have HI1 := Lib.hid hI1
  have HB1 := Lib.hid hB1
  have hvl := bk_lt hv0
  have c0 : w1.cell? ⟨w.heap.size, 0, none⟩ = some (.slice pP C.nP cP) := (bk_cell hv0 0).trans rfl
  have HC2 := Lib.hid (show w1.cell? ⟨w.heap.size, 2, none⟩ = some (.slice pC C.nC cC) from (bk_cell hv0 2).trans rfl)
  clear hb hB1 hv0 hI1
  go_wp2_with fail
  go_loopw [3, 14] (fun v n W' => ∃ k : Nat, k ≤ C.nP ∧ n = .int .i64 k ∧ v = .int .i64 (sumF (fP C) k) ∧ Below w1.heap.size w1 W') (fun _ n _ => C.nP - (intOf n).toNat)
  case atStart => exact ⟨0, by omega, rfl, rfl, Below.refl _ _⟩
  case round =>
    obtain ⟨k, hk, rfl, rfl, hb⟩ := hrel
    have HBk := Lib.hid hb
    have hz := hb.size
    have hsum := HOK.out.sumP hk
    clear hb
    by_cases hkn : k < C.nP
    · have hkn' : (k : Int) < C.nP := by omega
      have hbd := HOK.out.P hkn
      rcases HI1.out.P with h0 | ⟨b, o, e5, hc⟩
      · omega
      simp only at e5
      subst e5
      have x0 := keepc HBk.out (hc k hkn).1
      have x1 := keepc HBk.out (hc k hkn).2
      have HST := Lib.hid (show sumF (fP C) (k + 1) = sumF (fP C) k + fP C k from rfl)
      have HFP := Lib.hid (show fP C k = C.q k + (C.s k + 2) / 3 from rfl)
      generalize sumF (fP C) k = sm at *
      generalize C.q k = qk at *
      generalize C.s k = sk at *
      have s1 : IntKind.i64.wrap (qk + (sk + 2) / 3) = qk + (sk + 2) / 3 := IntWalk.i64_in _ (by omega)
      have s2 : IntKind.i64.wrap (sm + (qk + (sk + 2) / 3)) = sm + (qk + (sk + 2) / 3) := IntWalk.i64_in _ (by omega)
      clear hc
      go_wp2_with fail
      go_quiet ((go_at_call 35; exact Calls.quiet_of_same (by3_any _ _ (by omega) (by omega))))
      go_wp2
      refine ⟨⟨k + 1, by omega, by go_num, by rw [HST.out, HFP.out], bdrewN (HBk.out.alloc HBk.out.size _) _⟩, by simp [intOf]; omega⟩
    · have hkn2 : k = C.nP := by omega
      subst hkn2
      obtain ⟨wo, rfl⟩ : ∃ wo : World, wo = wr := ⟨_, rfl⟩
      have c2 := keepc HBk.out HC2.out
      have hI2 := HI1.out.below HBk.out
      have HI2 := Lib.hid hI2
      obtain ⟨sp, hsp⟩ : ∃ sp, sumF (fP C) C.nP = sp := ⟨_, rfl⟩
      rw [hsp] at hsum
      rw [hsp]
      have HSP := Lib.hid hsp
      clear hI2 hsp c0
      go_wp2_with fail
      go_loopw [3, 30] (fun v n W' => ∃ k : Nat, k ≤ C.nC ∧ n = .int .i64 k ∧ v = .int .i64 (sp + sumF (fC C) k) ∧ Below wo.heap.size wo W') (fun _ n _ => C.nC - (intOf n).toNat)
      case atStart => exact ⟨0, by omega, rfl, by simp [sumF], Below.refl _ _⟩
      case round =>
        obtain ⟨k, hk, rfl, rfl, hb⟩ := hrel
        have HBm := Lib.hid hb
        have hz2 := hb.size
        have hsumc := HOK.out.sumC hk
        clear hb
        by_cases hkn : k < C.nC
        · have hkn' : (k : Int) < C.nC := by omega
          have hbd := HOK.out.C hkn
          have hwd := words_bd hbd.2.2.2.1 hbd.2.2.2.2
          rcases HI2.out.C with h0 | ⟨b, o, e5, hc⟩
          · omega
          simp only at e5
          subst e5
          have x0 := keepc HBm.out (hc k hkn).1
          have x1 := keepc HBm.out (hc k hkn).2.1
          have x2 := keepc HBm.out (hc k hkn).2.2.1
          have x3 := keepc HBm.out (hc k hkn).2.2.2
          have HST := Lib.hid (show sumF (fC C) (k + 1) = sumF (fC C) k + fC C k from rfl)
          have HFC := Lib.hid (show fC C k = (C.cc k * (C.cw k + 1) + 31) / 32 from rfl)
          generalize sumF (fC C) k = sm at *
          generalize C.cc k = ck at *
          generalize C.cw k = wk at *
          have s0 : IntKind.i64.wrap (wk + 1) = wk + 1 := IntWalk.i64_in _ (by omega)
          obtain ⟨pr, hpr⟩ : ∃ pr, ck * (wk + 1) = pr := ⟨_, rfl⟩
          rw [hpr] at hwd
          have s1 : IntKind.i64.wrap (ck * (wk + 1)) = pr := by rw [hpr]; exact IntWalk.i64_in _ (by omega)
          have s2 : IntKind.i64.wrap (sp + sm + (pr + 31) / 32) = sp + sm + (pr + 31) / 32 := IntWalk.i64_in _ (by omega)
          have HPR := Lib.hid hpr
          clear hc hpr
          go_wp2_with fail
          refine (by32_any pr _ (by omega) (by omega)).mono ?_; rintro e w4 ⟨rfl, rfl⟩
          go_wp2
          refine ⟨⟨k + 1, by omega, by go_num, by rw [HST.out, HFC.out, HPR.out, Int.add_assoc], HBm.out.alloc HBm.out.size _⟩, by simp [intOf]; omega⟩
        · have hkn2 : k = C.nC := by omega
          subst hkn2
          go_wp2
          go_ret
          exact ⟨by rw [← HSP.out]; rfl, HB1.out.trans ((HBk.out.mono (by omega)).trans (HBm.out.mono (by omega)))⟩
noncomputable def ckB (C : Cfg) : Int := ckE C
set_option maxHeartbeats 1000000 in
theorem check_any (C : Cfg) (l : Lay) (w : World) (h : IsC w C l) (hN : C.nP ≤ 1000000 ∧ C.nW ≤ 1000000 ∧ C.nC ≤ 1000000) :
    Calls Try.prog 13 #[.agg (cfgV C l)] w fun e w' => e = .returned (.int .i64 (ckE C)) ∧ Below w.heap.size w w' := by
  have hnum := fun (W : World) (h : IsC W C l) => numbers_any C l W h hN
  have hfr := fun (W : World) (h : IsC W C l) => frames_any C l W h hN
  have HI := Lib.hid h
  clear h hN
  obtain ⟨pP, cP, pW, cW, pC, cC⟩ := l
  unfold cfgV at *
  simp only at *
  have HF := Lib.hid hfr
  by_cases hok : NumOk C
  case neg =>
    rw [ckE_bad hok]
    rw [numE_bad hok] at hnum
    have HNum := Lib.hid hnum
    clear hnum hok hfr
    go_enter Try.func13, Try.ntmps13
    go_wp2_with fail
    refine (HNum.out _ (by exact HI.out.below (by go_grown))).mono ?_; rintro e w1 ⟨rfl, hb⟩
    go_wp2
    go_ret
    exact ⟨rfl, bstep (by go_grown) hb⟩
  case pos =>
  rw [numE_ok hok] at hnum
  have HNum := Lib.hid hnum
  by_cases hf : 1024 < frE C
  all_goals
    first | rw [ckE_full hok hf] | rw [ckE_ok ⟨hok, by omega⟩]
    clear hnum hok hfr
    generalize frE C = fr at *
    go_enter Try.func13, Try.ntmps13
    go_wp2_with fail
    refine (HNum.out _ (by exact HI.out.below (by go_grown))).mono ?_; rintro e w1 ⟨rfl, hb⟩
    have hB1 : Below w.heap.size w w1 := bstep (by go_grown) hb
    have hv0 : w1.heap[w.heap.size]? = some (.cells #[.slice pP C.nP cP, .slice pW C.nW cW, .slice pC C.nC cC] 26 (0, 0)) := bk_below (bk_new w _) hb
    have HI1 := Lib.hid (HI.out.below hB1)
    have HB1 := Lib.hid hB1
    have c0 : w1.cell? ⟨w.heap.size, 0, none⟩ = some (.slice pP C.nP cP) := (bk_cell hv0 0).trans rfl
    have c1 : w1.cell? ⟨w.heap.size, 1, none⟩ = some (.slice pW C.nW cW) := (bk_cell hv0 1).trans rfl
    have c2 : w1.cell? ⟨w.heap.size, 2, none⟩ = some (.slice pC C.nC cC) := (bk_cell hv0 2).trans rfl
    clear hb hB1 hv0
    go_wp2_with fail
    refine (HF.out _ (by exact HI1.out)).mono ?_; rintro e w2 ⟨rfl, hb2⟩
    go_wp2
    go_ret
    exact ⟨rfl, bstep HB1.out hb2⟩
end Go.Proofs.Ythgoighpmnecbaa
namespace Go.Proofs.Ythgoighpmnecbaa
open Go.RowKit
set_option linter.unusedVariables false
set_option linter.unusedSimpArgs false
open Classical in
noncomputable def numB (C : Cfg) : Bool := decide (NumOk C)
theorem numB_ok {C : Cfg} (h : NumOk C) : numB C = true := by simp [numB, h]
theorem numB_bad {C : Cfg} (h : ¬ NumOk C) : numB C = false := by simp [numB, h]
theorem rin_any (n a b : Int) (w : World) :
    Calls Try.prog 61 #[.int .i64 n, .int .i64 a, .int .i64 b] w fun e w' => e = .returned (.bool (inB n a b)) ∧ w' = w := by
  have hd : inB n a b = (decide (a ≤ n) && decide (n ≤ b)) := rfl
  by_cases h1 : a ≤ n
  · by_cases h2 : n ≤ b
    all_goals
      have hr : inB n a b = decide (n ≤ b) := by simp [inB, h1]
      rw [hr]
      clear hd hr
      go_enter Try.func61, Try.ntmps61
      go_wp2
      go_ret
      exact ⟨by simp [*], rfl⟩
  · have hr : inB n a b = false := by simp [inB, h1]
    rw [hr]
    clear hd hr
    go_enter Try.func61, Try.ntmps61
    go_wp2
    go_ret
    exact ⟨by simp [*], rfl⟩
theorem seen_succ (C : Cfg) (k i : Nat) : seenB C (k + 1) i = (seenB C k i || (C.wp k == (i : Int))) := by
  unfold seenB
  rw [List.range_succ, List.any_append]
  simp
theorem bool5 {a1 a2 a3 a4 a5 : Bool} (h : (a1 && a2 && !a3 && a4 && a5) = false) : a1 = false ∨ (a1 = true ∧ a2 = false) ∨ (a1 = true ∧ a2 = true ∧ a3 = true) ∨ (a1 = true ∧ a2 = true ∧ a3 = false ∧ a4 = false) ∨ (a1 = true ∧ a2 = true ∧ a3 = false ∧ a4 = true ∧ a5 = false) := by
  revert h
  cases a1 <;> cases a2 <;> cases a3 <;> cases a4 <;> cases a5 <;> simp
set_option maxRecDepth 100000 in
set_option maxHeartbeats 16000000 in
theorem rnumbers_any (C : Cfg) (l : Lay) (w : World) (h : IsC w C l) (hN : C.nP ≤ 1000000 ∧ C.nW ≤ 1000000 ∧ C.nC ≤ 1000000) :
    Calls Try.prog 34 #[.agg (cfgV C l)] w fun e w' => e = .returned (.bool (numB C)) ∧ Below w.heap.size w w' := by
  have HI := Lib.hid h
  clear h
  obtain ⟨pP, cP, pW, cW, pC, cC⟩ := l
  unfold cfgV
  simp only at *
  obtain ⟨z1, z2, z3⟩ := hN
  have HEND := Lib.hid (show C.nP = C.nP from rfl)
  by_cases hn : okN C = true
  case neg =>
    rw [numB_bad (fun h => hn h.1)]
    have hn' : inB C.nP 1 8 = false ∨ (inB C.nP 1 8 = true ∧ inB C.nW 1 32 = false) ∨ (inB C.nP 1 8 = true ∧ inB C.nW 1 32 = true ∧ (16 : Int) < C.nC) := by
      unfold okN at hn
      cases h1 : inB C.nP 1 8 <;> cases h2 : inB C.nW 1 32 <;> simp [h1, h2] at hn ⊢
      omega
    clear hn
    rcases hn' with h1 | ⟨h1, h2⟩ | ⟨h1, h2, h3⟩
    all_goals
      go_enter Try.func34, Try.ntmps34
      go_wp2_with (go_at_call 61; refine (rin_any _ _ _ _).mono ?_; rintro e w' ⟨rfl, rfl⟩)
      go_ret
      exact ⟨rfl, by go_grown⟩
  case pos =>
  have h1 : inB C.nP 1 8 = true := by unfold okN at hn; simp at hn; exact hn.1.1
  have h2 : inB C.nW 1 32 = true := by unfold okN at hn; simp at hn; exact hn.1.2
  have h3 : ¬ (16 : Int) < C.nC := by unfold okN at hn; simp at hn; omega
  have hnP : 1 ≤ C.nP ∧ C.nP ≤ 8 := by simp [inB] at h1; omega
  have hnW : 1 ≤ C.nW ∧ C.nW ≤ 32 := by simp [inB] at h2; omega
  have HN := Lib.hid hn
  clear hn
  go_enter Try.func34, Try.ntmps34
  go_wp2_with (go_at_call 61; refine (rin_any _ _ _ _).mono ?_; rintro e w' ⟨rfl, rfl⟩)
  refine wp_abs (fun V => V.heap[w.heap.size]? = some (.cells #[.slice pP C.nP cP, .slice pW C.nW cW, .slice pC C.nC cC] 26 (0, 0)) ∧ Below w.heap.size w V) ⟨bk_new w _, (Below.refl _ _).alloc (Nat.le_refl _) _⟩ ?_
  rintro w1 ⟨hv0, hB1⟩
  have HI1 := Lib.hid (HI.out.below hB1)
  have HB1 := Lib.hid hB1
  have HV0 := Lib.hid hv0
  have hvl := bk_lt hv0
  clear hv0 hB1 h1 h2 h3
  go_loopw [3] (fun n W' => ∃ k : Nat, k ≤ C.nP ∧ n = .int .i64 k ∧ Hid (∀ i, i < k → seenB C C.nW i = true ∧ okP C i = true) ∧ Below w1.heap.size w1 W') (fun n _ => C.nP - (intOf n).toNat)
  case atStart => exact ⟨0, by omega, rfl, Lib.hid fun i hi => by omega, Below.refl _ _⟩
  case round =>
    obtain ⟨k, hk, rfl, HD, hb⟩ := hrel
    have HBk := Lib.hid hb
    have hz := hb.size
    have hvk := bk_below HV0.out hb
    have c0 : wr.cell? ⟨w.heap.size, 0, none⟩ = some (.slice pP C.nP cP) := (bk_cell hvk 0).trans rfl
    have c1 : wr.cell? ⟨w.heap.size, 1, none⟩ = some (.slice pW C.nW cW) := (bk_cell hvk 1).trans rfl
    clear hb hvk
    by_cases hkn : k < C.nP
    · have hkn' : (k : Int) < C.nP := by omega
      obtain ⟨wo, rfl⟩ : ∃ wo : World, wo = wr := ⟨_, rfl⟩
      go_wp2_with fail
      go_loopw [4, 5] (fun h n W' => ∃ j : Nat, j ≤ C.nW ∧ n = .int .i64 j ∧ h = .bool (seenB C j k) ∧ W' = wo) (fun _ n _ => C.nW - (intOf n).toNat)
      case atStart => exact ⟨0, by omega, rfl, rfl, rfl⟩
      case round =>
        obtain ⟨j, hj, rfl, rfl, rfl⟩ := hrel
        by_cases hjn : j < C.nW
        · have hjn' : (j : Int) < C.nW := by omega
          rcases HI1.out.W with h0 | ⟨b, o, e5, hc⟩
          · omega
          simp only at e5
          subst e5
          have x0 := keepc HBk.out (hc j hjn).1
          have HST := Lib.hid (seen_succ C j k)
          generalize C.wp j = pj at *
          clear hc
          cases hs : seenB C j k with
          | true =>
            have HSJ := Lib.hid hs
            clear hs
            go_wp2
            refine ⟨⟨j + 1, by omega, by go_num, by rw [HST.out, HSJ.out]; rfl, by first | exact trivial | rfl⟩, by simp [intOf]; omega⟩
          | false =>
            have HSJ := Lib.hid hs
            clear hs
            go_wp2
            refine ⟨⟨j + 1, by omega, by go_num, by rw [HST.out, HSJ.out]; rfl, by first | exact trivial | rfl⟩, by simp [intOf]; omega⟩
        · have hjn' : ¬ (j : Int) < C.nW := by omega
          obtain rfl : j = C.nW := by omega
          rcases HI1.out.P with h0 | ⟨b, o, e5, hc⟩
          · omega
          simp only at e5
          subst e5
          have x0 := keepc HBk.out (hc k hkn).1
          have x1 := keepc HBk.out (hc k hkn).2
          have HOKP := Lib.hid (show okP C k = (inB (C.q k) 4 256 && inB (C.s k) 1 8) from rfl)
          clear hc
          generalize C.q k = qk at *
          generalize C.s k = sk at *
          cases hs : seenB C C.nW k with
          | false =>
            have HNB := Lib.hid (numB_bad (fun h => by have := h.2.2.2.1 k hkn; rw [hs] at this; cases this))
            clear hs
            go_wp2
            go_ret
            exact ⟨by rw [HNB.out]; rfl, bstep HB1.out HBk.out⟩
          | true =>
            have HSK := Lib.hid hs
            clear hs
            cases g1 : inB qk 4 256 with
            | false =>
              have HNB := Lib.hid (numB_bad (fun h => by have := h.2.1 k hkn; rw [HOKP.out, g1] at this; cases this))
              go_wp2_with (go_at_call 61; refine (rin_any _ _ _ _).mono ?_; rintro e w' ⟨rfl, rfl⟩)
              go_ret
              exact ⟨by rw [HNB.out]; rfl, bstep HB1.out HBk.out⟩
            | true =>
              cases g2 : inB sk 1 8 with
              | false =>
                have HNB := Lib.hid (numB_bad (fun h => by have := h.2.1 k hkn; rw [HOKP.out, g1, g2] at this; cases this))
                go_wp2_with (go_at_call 61; refine (rin_any _ _ _ _).mono ?_; rintro e w' ⟨rfl, rfl⟩)
                go_ret
                exact ⟨by rw [HNB.out]; rfl, bstep HB1.out HBk.out⟩
              | true =>
                have HOK2 : Hid (okP C k = true) := Lib.hid (by rw [HOKP.out, g1, g2]; rfl)
                clear HOKP
                go_wp2_with (go_at_call 61; refine (rin_any _ _ _ _).mono ?_; rintro e w' ⟨rfl, rfl⟩)
                refine ⟨⟨k + 1, by omega, by go_num, Lib.hid fun i hi => ?_, HBk.out⟩, by simp [intOf]; omega⟩
                by_cases e : i = k
                · subst e; exact ⟨HSK.out, HOK2.out⟩
                · exact HD.out i (by omega)
    · have hkn' : ¬ (k : Int) < C.nP := by omega
      obtain rfl : k = C.nP := by omega
      have HDP := HD
      obtain ⟨wo, rfl⟩ : ∃ wo : World, wo = wr := ⟨_, rfl⟩
      have HV1 := Lib.hid (bk_below HV0.out HBk.out)
      have HI2 := Lib.hid (HI1.out.below HBk.out)
      have HB2 := Lib.hid (bstep HB1.out HBk.out)
      have hvl2 := bk_lt HV1.out
      clear HBk HI1 HB1 HV0
      go_wp2_with fail
      clear c0 c1
      go_loopw [6] (fun n W' => ∃ k : Nat, k ≤ C.nW ∧ n = .int .i64 k ∧ Hid (∀ i, i < k → okW C i = true) ∧ Below wo.heap.size wo W') (fun n _ => C.nW - (intOf n).toNat)
      case atStart => exact ⟨0, by omega, rfl, Lib.hid fun i hi => by omega, Below.refl _ _⟩
      case round =>
        obtain ⟨k, hk, rfl, HD, hb⟩ := hrel
        have HBk := Lib.hid hb
        have hz := hb.size
        have hvk := bk_below HV1.out hb
        have c0 : wr.cell? ⟨w.heap.size, 0, none⟩ = some (.slice pP C.nP cP) := (bk_cell hvk 0).trans rfl
        have c1 : wr.cell? ⟨w.heap.size, 1, none⟩ = some (.slice pW C.nW cW) := (bk_cell hvk 1).trans rfl
        clear hb hvk
        by_cases hkn : k < C.nW
        · have hkn' : (k : Int) < C.nW := by omega
          have hk0 : (0 : Int) ≤ (k : Int) := by omega
          rcases HI2.out.W with h0 | ⟨b, o, e5, hc⟩
          · omega
          simp only at e5
          subst e5
          have x0 := keepc HBk.out (hc k hkn).1
          have x1 := keepc HBk.out (hc k hkn).2
          have HOKW := Lib.hid (show okW C k = (inB (C.wp k) 0 ((C.nP : Int) - 1) && inB (C.wt k) 1 255) from rfl)
          have s1 : IntKind.i64.wrap ((C.nP : Int) - 1) = (C.nP : Int) - 1 := IntWalk.i64_in _ (by omega)
          clear hc
          generalize C.wp k = pk at *
          generalize C.wt k = tk at *
          cases g1 : inB pk 0 ((C.nP : Int) - 1) with
          | false =>
            have HNB := Lib.hid (numB_bad (fun h => by have := h.2.2.1 k hkn; rw [HOKW.out, g1] at this; cases this))
            go_wp2_with fail
            go_quiet ((go_at_call 61; exact Calls.quiet_of_same (rin_any _ _ _ _)))
            go_wp2
            go_ret
            exact ⟨by rw [HNB.out]; rfl, bstep HB2.out (bdrewN HBk.out _)⟩
          | true =>
            cases g2 : inB tk 1 255 with
            | false =>
              have HNB := Lib.hid (numB_bad (fun h => by have := h.2.2.1 k hkn; rw [HOKW.out, g1, g2] at this; cases this))
              go_wp2_with fail
              go_quiet ((go_at_call 61; exact Calls.quiet_of_same (rin_any _ _ _ _)))
              go_wp2
              go_ret
              exact ⟨by rw [HNB.out]; rfl, bstep HB2.out (bdrewN HBk.out _)⟩
            | true =>
              have HOK2 : Hid (okW C k = true) := Lib.hid (by rw [HOKW.out, g1, g2]; rfl)
              clear HOKW
              go_wp2_with fail
              go_quiet ((go_at_call 61; exact Calls.quiet_of_same (rin_any _ _ _ _)))
              go_wp2
              refine ⟨⟨k + 1, by omega, by go_num, Lib.hid fun i hi => ?_, bdrewN HBk.out _⟩, by simp [intOf]; omega⟩
              by_cases e : i = k
              · subst e; exact HOK2.out
              · exact HD.out i (by omega)
        · have hkn' : ¬ (k : Int) < C.nW := by omega
          obtain rfl : k = C.nW := by omega
          have HDW := HD
          obtain ⟨wq, rfl⟩ : ∃ wq : World, wq = wr := ⟨_, rfl⟩
          have HV2 := Lib.hid (bk_below HV1.out HBk.out)
          have HI3 := Lib.hid (HI2.out.below HBk.out)
          have HB3 := Lib.hid (bstep HB2.out HBk.out)
          have hvl3 := bk_lt HV2.out
          clear HBk HI2 HB2 HV1
          go_wp2_with fail
          clear c0 c1
          go_loopw [7] (fun n W' => ∃ k : Nat, k ≤ C.nC ∧ n = .int .i64 k ∧ Hid (∀ i, i < k → okC C i = true) ∧ Below wq.heap.size wq W') (fun n _ => C.nC - (intOf n).toNat)
          case atStart => exact ⟨0, by omega, rfl, Lib.hid fun i hi => by omega, Below.refl _ _⟩
          case round =>
            obtain ⟨k, hk, rfl, HD, hb⟩ := hrel
            have HBk := Lib.hid hb
            have hz := hb.size
            have hvk := bk_below HV2.out hb
            have c0 : wr.cell? ⟨w.heap.size, 0, none⟩ = some (.slice pP C.nP cP) := (bk_cell hvk 0).trans rfl
            have c2 : wr.cell? ⟨w.heap.size, 2, none⟩ = some (.slice pC C.nC cC) := (bk_cell hvk 2).trans rfl
            have hvl4 := bk_lt hvk
            clear hb hvk
            by_cases hkn : k < C.nC
            · have hkn' : (k : Int) < C.nC := by omega
              rcases HI3.out.C with h0 | ⟨b, o, e5, hc⟩
              · omega
              simp only at e5
              subst e5
              have x0 := keepc HBk.out (hc k hkn).1
              have x1 := keepc HBk.out (hc k hkn).2.1
              have x2 := keepc HBk.out (hc k hkn).2.2.1
              have x3 := keepc HBk.out (hc k hkn).2.2.2
              have HOKC := Lib.hid (show okC C k = (inB (C.cf k) 0 ((C.nP : Int) - 1) && inB (C.ct k) 0 ((C.nP : Int) - 1) && (C.cf k != C.ct k) && inB (C.cc k) 1 8 && inB (C.cw k) 1 8) from rfl)
              have s1 : IntKind.i64.wrap ((C.nP : Int) - 1) = (C.nP : Int) - 1 := IntWalk.i64_in _ (by omega)
              clear hc
              generalize C.cf k = fk at *
              generalize C.ct k = tk at *
              generalize C.cc k = ck at *
              generalize C.cw k = wk at *
              cases hall : (inB fk 0 ((C.nP : Int) - 1) && inB tk 0 ((C.nP : Int) - 1) && (fk != tk) && inB ck 1 8 && inB wk 1 8) with
              | true =>
                have HOK2 : Hid (okC C k = true) := Lib.hid (by rw [HOKC.out, hall])
                simp only [Bool.and_eq_true] at hall
                obtain ⟨⟨⟨⟨g1, g2⟩, g3⟩, g4⟩, g5⟩ := hall
                have g3' : (fk == tk) = false := by simpa using g3
                clear HOKC g3
                go_wp2_with (go_at_call 61; refine (rin_any _ _ _ _).mono ?_; rintro e w' ⟨rfl, rfl⟩)
                refine ⟨⟨k + 1, by omega, by go_num, Lib.hid fun i hi => ?_, HBk.out.alloc HBk.out.size _⟩, by simp [intOf]; omega⟩
                by_cases e : i = k
                · subst e; exact HOK2.out
                · exact HD.out i (by omega)
              | false =>
                have HNB := Lib.hid (numB_bad (fun h => by have := h.2.2.2.2 k hkn; rw [HOKC.out, hall] at this; cases this))
                have hcase : inB fk 0 ((C.nP : Int) - 1) = false ∨ (inB fk 0 ((C.nP : Int) - 1) = true ∧ inB tk 0 ((C.nP : Int) - 1) = false) ∨ (inB fk 0 ((C.nP : Int) - 1) = true ∧ inB tk 0 ((C.nP : Int) - 1) = true ∧ (fk == tk) = true) ∨
                    (inB fk 0 ((C.nP : Int) - 1) = true ∧ inB tk 0 ((C.nP : Int) - 1) = true ∧ (fk == tk) = false ∧ inB ck 1 8 = false) ∨ (inB fk 0 ((C.nP : Int) - 1) = true ∧ inB tk 0 ((C.nP : Int) - 1) = true ∧ (fk == tk) = false ∧ inB ck 1 8 = true ∧ inB wk 1 8 = false) := by
                  exact bool5 hall
                clear hall HOKC
                rcases hcase with g1 | ⟨g1, g2⟩ | ⟨g1, g2, g3⟩ | ⟨g1, g2, g3, g4⟩ | ⟨g1, g2, g3, g4, g5⟩
                all_goals
                  go_wp2_with (go_at_call 61; refine (rin_any _ _ _ _).mono ?_; rintro e w' ⟨rfl, rfl⟩)
                  go_ret
                  exact ⟨by rw [HNB.out]; rfl, bstep HB3.out (HBk.out.alloc HBk.out.size _)⟩
            · have hkn' : ¬ (k : Int) < C.nC := by omega
              obtain rfl : k = C.nC := by omega
              have HNB := Lib.hid (numB_ok ⟨HN.out, fun i hi => (HDP.out i hi).2, HDW.out, fun i hi => (HDP.out i hi).1, HD.out⟩)
              go_wp2
              go_ret
              exact ⟨by rw [HNB.out]; rfl, bstep HB3.out HBk.out⟩
end Go.Proofs.Ythgoighpmnecbaa
namespace Go.Proofs.Ythgoighpmnecbaa
open Go.RowKit
set_option linter.unusedVariables false
set_option linter.unusedSimpArgs false
theorem up3_any (n : Int) (w : World) (h0 : 0 ≤ n) (h1 : n ≤ 100000) :
    Calls Try.prog 36 #[.int .i64 n, .int .i64 3] w fun e w' => e = .returned (.int .i64 ((n + 2) / 3)) ∧ w' = w := by
  have s1 : IntKind.i64.wrap (n / 3 + 1) = n / 3 + 1 := IntWalk.i64_in _ (by omega)
  by_cases hr : 0 < n % 3
  · have e : (n + 2) / 3 = n / 3 + 1 := by omega
    rw [e]
    clear e
    go_enter Try.func36, Try.ntmps36
    go_wp2
    go_ret
    exact ⟨rfl, rfl⟩
  · have e : (n + 2) / 3 = n / 3 := by omega
    rw [e]
    clear e
    go_enter Try.func36, Try.ntmps36
    go_wp2
    go_ret
    exact ⟨rfl, rfl⟩
theorem up32_any (n : Int) (w : World) (h0 : 0 ≤ n) (h1 : n ≤ 100000) :
    Calls Try.prog 36 #[.int .i64 n, .int .i64 32] w fun e w' => e = .returned (.int .i64 ((n + 31) / 32)) ∧ w' = w := by
  have s1 : IntKind.i64.wrap (n / 32 + 1) = n / 32 + 1 := IntWalk.i64_in _ (by omega)
  by_cases hr : 0 < n % 32
  · have e : (n + 31) / 32 = n / 32 + 1 := by omega
    rw [e]
    clear e
    go_enter Try.func36, Try.ntmps36
    go_wp2
    go_ret
    exact ⟨rfl, rfl⟩
  · have e : (n + 31) / 32 = n / 32 := by omega
    rw [e]
    clear e
    go_enter Try.func36, Try.ntmps36
    go_wp2
    go_ret
    exact ⟨rfl, rfl⟩
set_option maxHeartbeats 4000000 in
theorem rframes_any (C : Cfg) (l : Lay) (w : World) (h : IsC w C l) (hN : C.nP ≤ 1000000 ∧ C.nW ≤ 1000000 ∧ C.nC ≤ 1000000) :
    Calls Try.prog 16 #[.agg (cfgV C l)] w fun e w' => e = .returned (.int .i64 (frE C)) ∧ Below w.heap.size w w' := by
  have hnum := fun (W : World) (h : IsC W C l) => rnumbers_any C l W h hN
  obtain ⟨z1, z2, z3⟩ := hN
  have HI := Lib.hid h
  clear h
  obtain ⟨pP, cP, pW, cW, pC, cC⟩ := l
  unfold cfgV at *
  simp only at *
  by_cases hok : NumOk C
  case neg =>
    rw [frE_bad hok]
    rw [numB_bad hok] at hnum
    have HNum := Lib.hid hnum
    clear hnum hok
    go_enter Try.func16, Try.ntmps16
    go_wp2_with fail
    refine (HNum.out _ (by exact HI.out.below (by go_grown))).mono ?_; rintro e w1 ⟨rfl, hb⟩
    go_wp2
    go_ret
    exact ⟨rfl, bstep (by go_grown) hb⟩
  case pos =>
  rw [frE_ok hok]
  rw [numB_ok hok] at hnum
  have HNum := Lib.hid hnum
  have HOK := Lib.hid hok
  have hNN := hok.N
  clear hnum hok
  go_enter Try.func16, Try.ntmps16
  go_wp2_with fail
  refine (HNum.out _ (by exact HI.out.below (by go_grown))).mono ?_; rintro e w1 ⟨rfl, hb⟩
  have hB1 : Below w.heap.size w w1 := bstep (by go_grown) hb
  have hv0 : w1.heap[w.heap.size]? = some (.cells #[.slice pP C.nP cP, .slice pW C.nW cW, .slice pC C.nC cC] 26 (0, 0)) := bk_below (bk_new w _) hb
  have hI1 := HI.out.below hB1
  have HI1 := Lib.hid hI1
  have HB1 := Lib.hid hB1
  have hvl := bk_lt hv0
  have HC0 := Lib.hid (show w1.cell? ⟨w.heap.size, 0, none⟩ = some (.slice pP C.nP cP) from (bk_cell hv0 0).trans rfl)
  have HC2 := Lib.hid (show w1.cell? ⟨w.heap.size, 2, none⟩ = some (.slice pC C.nC cC) from (bk_cell hv0 2).trans rfl)
  clear hb hB1 hv0 hI1
  go_wp2_with fail
  go_loopw [3, 4] (fun v n W' => ∃ k : Nat, k ≤ C.nP ∧ n = .int .i64 k ∧ v = .int .i64 (sumF (fP C) k) ∧ Below w1.heap.size w1 W') (fun _ n _ => C.nP - (intOf n).toNat)
  case atStart => exact ⟨0, by omega, rfl, rfl, Below.refl _ _⟩
  case round =>
    obtain ⟨k, hk, rfl, rfl, hb⟩ := hrel
    have HBk := Lib.hid hb
    have hz := hb.size
    have hsum := HOK.out.sumP hk
    have c0 := keepc hb HC0.out
    clear hb
    by_cases hkn : k < C.nP
    · have hkn' : (k : Int) < C.nP := by omega
      have hk0 : (0 : Int) ≤ (k : Int) := by omega
      have hbd := HOK.out.P hkn
      rcases HI1.out.P with h0 | ⟨b, o, e5, hc⟩
      · omega
      simp only at e5
      subst e5
      have x0 := keepc HBk.out (hc k hkn).1
      have x1 := keepc HBk.out (hc k hkn).2
      have HST := Lib.hid (show sumF (fP C) (k + 1) = sumF (fP C) k + fP C k from rfl)
      have HFP := Lib.hid (show fP C k = C.q k + (C.s k + 2) / 3 from rfl)
      generalize sumF (fP C) k = sm at *
      generalize C.q k = qk at *
      generalize C.s k = sk at *
      have s1 : IntKind.i64.wrap (sm + qk) = sm + qk := IntWalk.i64_in _ (by omega)
      have s2 : IntKind.i64.wrap (sm + qk + (sk + 2) / 3) = sm + qk + (sk + 2) / 3 := IntWalk.i64_in _ (by omega)
      clear hc
      go_wp2_with fail
      go_quiet ((go_at_call 36; exact Calls.quiet_of_same (up3_any _ _ (by omega) (by omega))))
      go_wp2
      refine ⟨⟨k + 1, by omega, by go_num, by rw [HST.out, HFP.out, Int.add_assoc], bdrewN HBk.out _⟩, by simp [intOf]; omega⟩
    · have hkn' : ¬ (k : Int) < C.nP := by omega
      have hkn2 : k = C.nP := by omega
      subst hkn2
      obtain ⟨wo, rfl⟩ : ∃ wo : World, wo = wr := ⟨_, rfl⟩
      have HC2' := Lib.hid (keepc HBk.out HC2.out)
      have hI2 := HI1.out.below HBk.out
      have HI2 := Lib.hid hI2
      obtain ⟨sp, hsp⟩ : ∃ sp, sumF (fP C) C.nP = sp := ⟨_, rfl⟩
      rw [hsp] at hsum
      rw [hsp]
      have HSP := Lib.hid hsp
      clear hI2 hsp
      go_wp2_with fail
      clear c0
      go_loopw [3, 5] (fun v n W' => ∃ k : Nat, k ≤ C.nC ∧ n = .int .i64 k ∧ v = .int .i64 (sp + sumF (fC C) k) ∧ Below wo.heap.size wo W') (fun _ n _ => C.nC - (intOf n).toNat)
      case atStart => exact ⟨0, by omega, rfl, by simp [sumF], Below.refl _ _⟩
      case round =>
        obtain ⟨k, hk, rfl, rfl, hb⟩ := hrel
        have HBm := Lib.hid hb
        have hz2 := hb.size
        have hsumc := HOK.out.sumC hk
        have c2 := keepc hb HC2'.out
        clear hb
        by_cases hkn : k < C.nC
        · have hkn' : (k : Int) < C.nC := by omega
          have hk0 : (0 : Int) ≤ (k : Int) := by omega
          have hbd := HOK.out.C hkn
          have hwd := words_bd hbd.2.2.2.1 hbd.2.2.2.2
          rcases HI2.out.C with h0 | ⟨b, o, e5, hc⟩
          · omega
          simp only at e5
          subst e5
          have x2 := keepc HBm.out (hc k hkn).2.2.1
          have x3 := keepc HBm.out (hc k hkn).2.2.2
          have HST := Lib.hid (show sumF (fC C) (k + 1) = sumF (fC C) k + fC C k from rfl)
          have HFC := Lib.hid (show fC C k = (C.cc k * (C.cw k + 1) + 31) / 32 from rfl)
          generalize sumF (fC C) k = sm at *
          generalize C.cc k = ck at *
          generalize C.cw k = wk at *
          have s0 : IntKind.i64.wrap (wk + 1) = wk + 1 := IntWalk.i64_in _ (by omega)
          obtain ⟨pr, hpr⟩ : ∃ pr, ck * (wk + 1) = pr := ⟨_, rfl⟩
          rw [hpr] at hwd
          have s1 : IntKind.i64.wrap (ck * (wk + 1)) = pr := by rw [hpr]; exact IntWalk.i64_in _ (by omega)
          have s2 : IntKind.i64.wrap (sp + sm + (pr + 31) / 32) = sp + sm + (pr + 31) / 32 := IntWalk.i64_in _ (by omega)
          have HPR := Lib.hid hpr
          clear hc hpr
          go_wp2_with fail
          go_quiet ((go_at_call 36; exact Calls.quiet_of_same (up32_any pr _ (by omega) (by omega))))
          go_wp2
          refine ⟨⟨k + 1, by omega, by go_num, by rw [HST.out, HFC.out, HPR.out, Int.add_assoc], bdrewN HBm.out _⟩, by simp [intOf]; omega⟩
        · have hkn' : ¬ (k : Int) < C.nC := by omega
          have hkn2 : k = C.nC := by omega
          subst hkn2
          go_wp2
          go_ret
          exact ⟨by rw [← HSP.out]; rfl, HB1.out.trans ((HBk.out.mono (by omega)).trans (HBm.out.mono (by omega)))⟩
set_option maxHeartbeats 1000000 in
theorem rcheck_any (C : Cfg) (l : Lay) (w : World) (h : IsC w C l) (hN : C.nP ≤ 1000000 ∧ C.nW ≤ 1000000 ∧ C.nC ≤ 1000000) :
    Calls Try.prog 14 #[.agg (cfgV C l)] w fun e w' => e = .returned (.int .i64 (ckE C)) ∧ Below w.heap.size w w' := by
  have hnum := fun (W : World) (h : IsC W C l) => rnumbers_any C l W h hN
  have hfr := fun (W : World) (h : IsC W C l) => rframes_any C l W h hN
  have HI := Lib.hid h
  clear h hN
  obtain ⟨pP, cP, pW, cW, pC, cC⟩ := l
  unfold cfgV at *
  simp only at *
  have HF := Lib.hid hfr
  by_cases hok : NumOk C
  case neg =>
    rw [ckE_bad hok]
    rw [numB_bad hok] at hnum
    have HNum := Lib.hid hnum
    clear hnum hok hfr
    go_enter Try.func14, Try.ntmps14
    go_wp2_with fail
    refine (HNum.out _ (by exact HI.out.below (by go_grown))).mono ?_; rintro e w1 ⟨rfl, hb⟩
    go_wp2
    go_ret
    exact ⟨rfl, bstep (by go_grown) hb⟩
  case pos =>
  rw [numB_ok hok] at hnum
  have HNum := Lib.hid hnum
  by_cases hf : 1024 < frE C
  all_goals
    first | rw [ckE_full hok hf] | rw [ckE_ok ⟨hok, by omega⟩]
    clear hnum hok hfr
    generalize frE C = fr at *
    go_enter Try.func14, Try.ntmps14
    go_wp2_with fail
    refine (HNum.out _ (by exact HI.out.below (by go_grown))).mono ?_; rintro e w1 ⟨rfl, hb⟩
    have hB1 : Below w.heap.size w w1 := bstep (by go_grown) hb
    have hv0 : w1.heap[w.heap.size]? = some (.cells #[.slice pP C.nP cP, .slice pW C.nW cW, .slice pC C.nC cC] 26 (0, 0)) := bk_below (bk_new w _) hb
    have HI1 := Lib.hid (HI.out.below hB1)
    have HB1 := Lib.hid hB1
    have c0 : w1.cell? ⟨w.heap.size, 0, none⟩ = some (.slice pP C.nP cP) := (bk_cell hv0 0).trans rfl
    have c1 : w1.cell? ⟨w.heap.size, 1, none⟩ = some (.slice pW C.nW cW) := (bk_cell hv0 1).trans rfl
    have c2 : w1.cell? ⟨w.heap.size, 2, none⟩ = some (.slice pC C.nC cC) := (bk_cell hv0 2).trans rfl
    clear hb hB1 hv0
    go_wp2_with fail
    refine (HF.out _ (by exact HI1.out)).mono ?_; rintro e w2 ⟨rfl, hb2⟩
    go_wp2
    go_ret
    exact ⟨rfl, bstep HB1.out hb2⟩
end Go.Proofs.Ythgoighpmnecbaa
