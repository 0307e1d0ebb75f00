/- Helper text of this seat (ZF): contracts of functions of the given program and of its references, and the laws' plain parts, each told by its theorem. Conditions: as each theorem names them. -/
import Derived.Test.YthgoighpmnecbaaZB
import Derived.Test.YthgoighpmnecbaaPSamex1
import Derived.Test.YthgoighpmnecbaaPSamex2
import Derived.Test.YthgoighpmnecbaaPSamex3
import Derived.BigQuiet
import Derived.Deep.QuietTactic
namespace Go.Proofs.Ythgoighpmnecbaa
open Go.RowKit
set_option linter.unusedVariables false
set_option linter.unusedSimpArgs false
attribute [local go_sem high] PSame.eqA41 PSame.eqA44 PSame.eqA46
open Classical in
/-- are two rows of pairs the same? -/
noncomputable def eq2 (n m : Nat) (X Y X' Y' : Nat → Int) : Bool := decide (n = m ∧ ∀ i, i < n → X i = X' i ∧ Y i = Y' i)
open Classical in
noncomputable def eq4 (n m : Nat) (X Y Z U X' Y' Z' U' : Nat → Int) : Bool := decide (n = m ∧ ∀ i, i < n → X i = X' i ∧ Y i = Y' i ∧ Z i = Z' i ∧ U i = U' i)
theorem eq_PartConf_len (p p' : Option Addr) (n m c c' : Nat) (w : World) (hn : n ≠ m) :
    Calls Try.prog 37 #[.slice p n c, .slice p' m c'] w fun e w' => e = .returned (.bool false) ∧ w' = w := by
  have h1 : ((n : Int) != m) = true := by simp only [bne, Bool.not_eq_true', beq_eq_false_iff_ne]; omega
  have h2 : ((n : Int) == m) = false := beq_eq_false_iff_ne.2 (by omega)
  clear hn
  go_enter Try.func37, Try.ntmps37
  go_wp2
  go_ret
  exact ⟨rfl, rfl⟩
set_option maxHeartbeats 1000000 in
theorem eq_PartConf_rows (p p' : Option Addr) (n c c' : Nat) (X Y X' Y' : Nat → Int) (w : World) (h : Sl2 w p n X Y) (h' : Sl2 w p' n X' Y') (hN : n ≤ 1000000) :
    Calls Try.prog 37 #[.slice p n c, .slice p' n c'] w fun e w' => e = .returned (.bool (eq2 n n X Y X' Y')) ∧ Below w.heap.size w w' := by
  have HS := Lib.hid h
  have HS' := Lib.hid h'
  have h1 : ((n : Int) != n) = false := by simp
  have h2 : ((n : Int) == n) = true := by simp
  clear h h'
  go_enter Try.func37, Try.ntmps37
  go_wp2_with fail
  clear h1 h2
  go_loopw [13] (fun iv W' => ∃ k : Nat, k ≤ n ∧ iv = .int .i64 k ∧ (∀ i, i < k → X i = X' i ∧ Y i = Y' i) ∧ Below w.heap.size w W') (fun iv _ => n - (intOf iv).toNat)
  case atStart => exact ⟨0, by omega, rfl, fun i hi => by omega, Below.refl _ _⟩
  case round =>
    obtain ⟨k, hk, rfl, he, hb⟩ := hrel
    have HE := Lib.hid he
    have HB := Lib.hid hb
    clear he hb
    by_cases hkn : k < n
    · have hkn' : (k : Int) < n := by omega
      rcases HS.out with h0 | ⟨b, o, rfl, hc⟩
      · omega
      rcases HS'.out with h0 | ⟨b', o', rfl, hc'⟩
      · omega
      have d0 := keepc HB.out (hc k hkn).1
      have d1 := keepc HB.out (hc k hkn).2
      have e0 := keepc HB.out (hc' k hkn).1
      have e1 := keepc HB.out (hc' k hkn).2
      clear hc hc'
      by_cases hx : X k = X' k ∧ Y k = Y' k
      · have hne : (X k == X' k && (Y k == Y' k)) = true := by simp [hx]
        have HX := Lib.hid hx
        clear hx
        go_wp2_with fail
        go_quiet (fail)
        go_wp2
        have hnext : ∀ i, i < k + 1 → X i = X' i ∧ Y i = Y' i := by
          intro i hi
          by_cases e : i = k
          · rw [e]; exact HX.out
          · exact HE.out i (by omega)
        exact ⟨⟨k + 1, by omega, by go_num, hnext, bdrewN HB.out nq⟩, by simp [intOf]; omega⟩
      · have hne : (X k == X' k && (Y k == Y' k)) = false := by
          simp only [Bool.and_eq_false_iff, beq_eq_false_iff_ne]
          by_cases a : X k = X' k
          · exact .inr fun b => hx ⟨a, b⟩
          · exact .inl a
        have hr : eq2 n n X Y X' Y' = false := decide_eq_false fun h => hx (h.2 k hkn)
        have HR := Lib.hid hr
        clear hx hr
        go_wp2_with fail
        go_quiet (fail)
        go_wp2
        go_ret
        exact ⟨by rw [HR.out]; rfl, bdrewN HB.out nq⟩
    · obtain rfl : k = n := by omega
      have hkn' : ¬ (k : Int) < k := by omega
      have hr : eq2 k k X Y X' Y' = true := decide_eq_true ⟨rfl, HE.out⟩
      have HR := Lib.hid hr
      clear hr
      go_wp2
      go_ret
      exact ⟨by rw [HR.out]; rfl, HB.out⟩
theorem eq_PartConf (p p' : Option Addr) (n m c c' : Nat) (X Y X' Y' : Nat → Int) (w : World) (h : Sl2 w p n X Y) (h' : Sl2 w p' m X' Y') (hN : n ≤ 1000000) :
    Calls Try.prog 37 #[.slice p n c, .slice p' m c'] w fun e w' => e = .returned (.bool (eq2 n m X Y X' Y')) ∧ Below w.heap.size w w' := by
  by_cases hn : n = m
  · subst hn
    exact eq_PartConf_rows p p' n c c' X Y X' Y' w h h' hN
  · refine (eq_PartConf_len p p' n m c c' w hn).mono ?_
    rintro e w' ⟨rfl, rfl⟩
    exact ⟨by rw [show eq2 n m X Y X' Y' = false from decide_eq_false fun h => hn h.1], Below.refl _ _⟩
theorem eq_Window_len (p p' : Option Addr) (n m c c' : Nat) (w : World) (hn : n ≠ m) :
    Calls Try.prog 38 #[.slice p n c, .slice p' m c'] w fun e w' => e = .returned (.bool false) ∧ w' = w := by
  have h1 : ((n : Int) != m) = true := by simp only [bne, Bool.not_eq_true', beq_eq_false_iff_ne]; omega
  have h2 : ((n : Int) == m) = false := beq_eq_false_iff_ne.2 (by omega)
  clear hn
  go_enter Try.func38, Try.ntmps38
  go_wp2
  go_ret
  exact ⟨rfl, rfl⟩
set_option maxHeartbeats 1000000 in
theorem eq_Window_rows (p p' : Option Addr) (n c c' : Nat) (X Y X' Y' : Nat → Int) (w : World) (h : Sl2 w p n X Y) (h' : Sl2 w p' n X' Y') (hN : n ≤ 1000000) :
    Calls Try.prog 38 #[.slice p n c, .slice p' n c'] w fun e w' => e = .returned (.bool (eq2 n n X Y X' Y')) ∧ Below w.heap.size w w' := by
  have HS := Lib.hid h
  have HS' := Lib.hid h'
  have h1 : ((n : Int) != n) = false := by simp
  have h2 : ((n : Int) == n) = true := by simp
  clear h h'
  go_enter Try.func38, Try.ntmps38
  go_wp2_with fail
  clear h1 h2
  go_loopw [13] (fun iv W' => ∃ k : Nat, k ≤ n ∧ iv = .int .i64 k ∧ (∀ i, i < k → X i = X' i ∧ Y i = Y' i) ∧ Below w.heap.size w W') (fun iv _ => n - (intOf iv).toNat)
  case atStart => exact ⟨0, by omega, rfl, fun i hi => by omega, Below.refl _ _⟩
  case round =>
    obtain ⟨k, hk, rfl, he, hb⟩ := hrel
    have HE := Lib.hid he
    have HB := Lib.hid hb
    clear he hb
    by_cases hkn : k < n
    · have hkn' : (k : Int) < n := by omega
      rcases HS.out with h0 | ⟨b, o, rfl, hc⟩
      · omega
      rcases HS'.out with h0 | ⟨b', o', rfl, hc'⟩
      · omega
      have d0 := keepc HB.out (hc k hkn).1
      have d1 := keepc HB.out (hc k hkn).2
      have e0 := keepc HB.out (hc' k hkn).1
      have e1 := keepc HB.out (hc' k hkn).2
      clear hc hc'
      by_cases hx : X k = X' k ∧ Y k = Y' k
      · have hne : (X k == X' k && (Y k == Y' k)) = true := by simp [hx]
        have HX := Lib.hid hx
        clear hx
        go_wp2_with fail
        go_quiet (fail)
        go_wp2
        have hnext : ∀ i, i < k + 1 → X i = X' i ∧ Y i = Y' i := by
          intro i hi
          by_cases e : i = k
          · rw [e]; exact HX.out
          · exact HE.out i (by omega)
        exact ⟨⟨k + 1, by omega, by go_num, hnext, bdrewN HB.out nq⟩, by simp [intOf]; omega⟩
      · have hne : (X k == X' k && (Y k == Y' k)) = false := by
          simp only [Bool.and_eq_false_iff, beq_eq_false_iff_ne]
          by_cases a : X k = X' k
          · exact .inr fun b => hx ⟨a, b⟩
          · exact .inl a
        have hr : eq2 n n X Y X' Y' = false := decide_eq_false fun h => hx (h.2 k hkn)
        have HR := Lib.hid hr
        clear hx hr
        go_wp2_with fail
        go_quiet (fail)
        go_wp2
        go_ret
        exact ⟨by rw [HR.out]; rfl, bdrewN HB.out nq⟩
    · obtain rfl : k = n := by omega
      have hkn' : ¬ (k : Int) < k := by omega
      have hr : eq2 k k X Y X' Y' = true := decide_eq_true ⟨rfl, HE.out⟩
      have HR := Lib.hid hr
      clear hr
      go_wp2
      go_ret
      exact ⟨by rw [HR.out]; rfl, HB.out⟩
theorem eq_Window (p p' : Option Addr) (n m c c' : Nat) (X Y X' Y' : Nat → Int) (w : World) (h : Sl2 w p n X Y) (h' : Sl2 w p' m X' Y') (hN : n ≤ 1000000) :
    Calls Try.prog 38 #[.slice p n c, .slice p' m c'] w fun e w' => e = .returned (.bool (eq2 n m X Y X' Y')) ∧ Below w.heap.size w w' := by
  by_cases hn : n = m
  · subst hn
    exact eq_Window_rows p p' n c c' X Y X' Y' w h h' hN
  · refine (eq_Window_len p p' n m c c' w hn).mono ?_
    rintro e w' ⟨rfl, rfl⟩
    exact ⟨by rw [show eq2 n m X Y X' Y' = false from decide_eq_false fun h => hn h.1], Below.refl _ _⟩
theorem eq_ChanConf_len (p p' : Option Addr) (n m c c' : Nat) (w : World) (hn : n ≠ m) :
    Calls Try.prog 39 #[.slice p n c, .slice p' m c'] w fun e w' => e = .returned (.bool false) ∧ w' = w := by
  have h1 : ((n : Int) != m) = true := by simp only [bne, Bool.not_eq_true', beq_eq_false_iff_ne]; omega
  have h2 : ((n : Int) == m) = false := beq_eq_false_iff_ne.2 (by omega)
  clear hn
  go_enter Try.func39, Try.ntmps39
  go_wp2
  go_ret
  exact ⟨rfl, rfl⟩
set_option maxHeartbeats 1000000 in
theorem eq_ChanConf_rows (p p' : Option Addr) (n c c' : Nat) (X Y Z U X' Y' Z' U' : Nat → Int) (w : World) (h : Sl4 w p n X Y Z U) (h' : Sl4 w p' n X' Y' Z' U') (hN : n ≤ 1000000) :
    Calls Try.prog 39 #[.slice p n c, .slice p' n c'] w fun e w' => e = .returned (.bool (eq4 n n X Y Z U X' Y' Z' U')) ∧ Below w.heap.size w w' := by
  have HS := Lib.hid h
  have HS' := Lib.hid h'
  have h1 : ((n : Int) != n) = false := by simp
  have h2 : ((n : Int) == n) = true := by simp
  clear h h'
  go_enter Try.func39, Try.ntmps39
  go_wp2_with fail
  clear h1 h2
  go_loopw [13] (fun iv W' => ∃ k : Nat, k ≤ n ∧ iv = .int .i64 k ∧ (∀ i, i < k → X i = X' i ∧ Y i = Y' i ∧ Z i = Z' i ∧ U i = U' i) ∧ Below w.heap.size w W') (fun iv _ => n - (intOf iv).toNat)
  case atStart => exact ⟨0, by omega, rfl, fun i hi => by omega, Below.refl _ _⟩
  case round =>
    obtain ⟨k, hk, rfl, he, hb⟩ := hrel
    have HE := Lib.hid he
    have HB := Lib.hid hb
    clear he hb
    by_cases hkn : k < n
    · have hkn' : (k : Int) < n := by omega
      rcases HS.out with h0 | ⟨b, o, rfl, hc⟩
      · omega
      rcases HS'.out with h0 | ⟨b', o', rfl, hc'⟩
      · omega
      have d0 := keepc HB.out (hc k hkn).1
      have d1 := keepc HB.out (hc k hkn).2.1
      have d2 := keepc HB.out (hc k hkn).2.2.1
      have d3 := keepc HB.out (hc k hkn).2.2.2
      have e0 := keepc HB.out (hc' k hkn).1
      have e1 := keepc HB.out (hc' k hkn).2.1
      have e2 := keepc HB.out (hc' k hkn).2.2.1
      have e3 := keepc HB.out (hc' k hkn).2.2.2
      clear hc hc'
      by_cases hx : X k = X' k ∧ Y k = Y' k ∧ Z k = Z' k ∧ U k = U' k
      · have hne : (X k == X' k && (Y k == Y' k && (Z k == Z' k && (U k == U' k)))) = true := by simp [hx]
        have HX := Lib.hid hx
        clear hx
        go_wp2_with fail
        go_quiet (fail)
        go_wp2
        have hnext : ∀ i, i < k + 1 → X i = X' i ∧ Y i = Y' i ∧ Z i = Z' i ∧ U i = U' i := by
          intro i hi
          by_cases e : i = k
          · rw [e]; exact HX.out
          · exact HE.out i (by omega)
        exact ⟨⟨k + 1, by omega, by go_num, hnext, bdrewN HB.out nq⟩, by simp [intOf]; omega⟩
      · have hne : (X k == X' k && (Y k == Y' k && (Z k == Z' k && (U k == U' k)))) = false := by
          simp only [Bool.and_eq_false_iff, beq_eq_false_iff_ne]
          by_cases a : X k = X' k
          · refine .inr ?_
            by_cases a2 : Y k = Y' k
            · refine .inr ?_
              by_cases a3 : Z k = Z' k
              · exact .inr fun b => hx ⟨a, a2, a3, b⟩
              · exact .inl a3
            · exact .inl a2
          · exact .inl a
        have hr : eq4 n n X Y Z U X' Y' Z' U' = false := decide_eq_false fun h => hx (h.2 k hkn)
        have HR := Lib.hid hr
        clear hx hr
        go_wp2_with fail
        go_quiet (fail)
        go_wp2
        go_ret
        exact ⟨by rw [HR.out]; rfl, bdrewN HB.out nq⟩
    · obtain rfl : k = n := by omega
      have hkn' : ¬ (k : Int) < k := by omega
      have hr : eq4 k k X Y Z U X' Y' Z' U' = true := decide_eq_true ⟨rfl, HE.out⟩
      have HR := Lib.hid hr
      clear hr
      go_wp2
      go_ret
      exact ⟨by rw [HR.out]; rfl, HB.out⟩
theorem eq_ChanConf (p p' : Option Addr) (n m c c' : Nat) (X Y Z U X' Y' Z' U' : Nat → Int) (w : World) (h : Sl4 w p n X Y Z U) (h' : Sl4 w p' m X' Y' Z' U') (hN : n ≤ 1000000) :
    Calls Try.prog 39 #[.slice p n c, .slice p' m c'] w fun e w' => e = .returned (.bool (eq4 n m X Y Z U X' Y' Z' U')) ∧ Below w.heap.size w w' := by
  by_cases hn : n = m
  · subst hn
    exact eq_ChanConf_rows p p' n c c' X Y Z U X' Y' Z' U' w h h' hN
  · refine (eq_ChanConf_len p p' n m c c' w hn).mono ?_
    rintro e w' ⟨rfl, rfl⟩
    exact ⟨by rw [show eq4 n m X Y Z U X' Y' Z' U' = false from decide_eq_false fun h => hn h.1], Below.refl _ _⟩
end Go.Proofs.Ythgoighpmnecbaa
namespace Go.Proofs.Ythgoighpmnecbaa
open Go.RowKit
set_option linter.unusedVariables false
set_option linter.unusedSimpArgs false
/-- are two configurations the same? -/
noncomputable def sameB (C D : Cfg) : Bool := eq2 C.nP D.nP C.q C.s D.q D.s && (eq2 C.nW D.nW C.wp C.wt D.wp D.wt && eq4 C.nC D.nC C.cf C.ct C.cc C.cw D.cf D.ct D.cc D.cw)
set_option maxHeartbeats 1000000 in
theorem cfsame_any (C D : Cfg) (l k : Lay) (w : World) (hC : IsC w C l) (hD : IsC w D k) (hN : C.nP ≤ 1000000 ∧ C.nW ≤ 1000000 ∧ C.nC ≤ 1000000) :
    Calls Try.prog 17 #[.agg (cfgV C l), .agg (cfgV D k)] w fun e w' => e = .returned (.bool (sameB C D)) ∧ Below w.heap.size w w' := by
  have HC := Lib.hid hC
  have HD := Lib.hid hD
  obtain ⟨pP, cP, pW, cW, pC, cC⟩ := l
  obtain ⟨qP, dP, qW, dW, qC, dC⟩ := k
  have HE1 := Lib.hid fun (W : World) (h : IsC W C ⟨pP, cP, pW, cW, pC, cC⟩) (h' : IsC W D ⟨qP, dP, qW, dW, qC, dC⟩) => eq_PartConf pP qP C.nP D.nP cP dP C.q C.s D.q D.s W h.P h'.P hN.1
  have HE2 := Lib.hid fun (W : World) (h : IsC W C ⟨pP, cP, pW, cW, pC, cC⟩) (h' : IsC W D ⟨qP, dP, qW, dW, qC, dC⟩) => eq_Window pW qW C.nW D.nW cW dW C.wp C.wt D.wp D.wt W h.W h'.W hN.2.1
  have HE3 := Lib.hid fun (W : World) (h : IsC W C ⟨pP, cP, pW, cW, pC, cC⟩) (h' : IsC W D ⟨qP, dP, qW, dW, qC, dC⟩) => eq_ChanConf pC qC C.nC D.nC cC dC C.cf C.ct C.cc C.cw D.cf D.ct D.cc D.cw W h.C h'.C hN.2.2
  have HS := Lib.hid (show sameB C D = (eq2 C.nP D.nP C.q C.s D.q D.s && (eq2 C.nW D.nW C.wp C.wt D.wp D.wt && eq4 C.nC D.nC C.cf C.ct C.cc C.cw D.cf D.ct D.cc D.cw)) from rfl)
  unfold cfgV at *
  simp only at *
  clear hC hD hN
  generalize eq2 C.nP D.nP C.q C.s D.q D.s = b1 at *
  generalize eq2 C.nW D.nW C.wp C.wt D.wp D.wt = b2 at *
  generalize eq4 C.nC D.nC C.cf C.ct C.cc C.cw D.cf D.ct D.cc D.cw = b3 at *
  go_enter Try.func17, Try.ntmps17
  go_wp2_with fail
  have hv0 : ((w.alloc (.cells #[.slice pP C.nP cP, .slice pW C.nW cW, .slice pC C.nC cC] 26)).alloc (.cells #[.slice qP D.nP dP, .slice qW D.nW dW, .slice qC D.nC dC] 26)).heap[w.heap.size]? = some (.cells #[.slice pP C.nP cP, .slice pW C.nW cW, .slice pC C.nC cC] 26 (0, 0)) := bk_alloc (bk_new w _) _
  have hv1 : ((w.alloc (.cells #[.slice pP C.nP cP, .slice pW C.nW cW, .slice pC C.nC cC] 26)).alloc (.cells #[.slice qP D.nP dP, .slice qW D.nW dW, .slice qC D.nC dC] 26)).heap[w.heap.size + 1]? = some (.cells #[.slice qP D.nP dP, .slice qW D.nW dW, .slice qC D.nC dC] 26 (0, 0)) := by
    have := bk_new (w.alloc (.cells #[.slice pP C.nP cP, .slice pW C.nW cW, .slice pC C.nC cC] 26)) (.cells #[.slice qP D.nP dP, .slice qW D.nW dW, .slice qC D.nC dC] 26)
    rwa [World.size_alloc] at this
  have hb0 : Below w.heap.size w ((w.alloc (.cells #[.slice pP C.nP cP, .slice pW C.nW cW, .slice pC C.nC cC] 26)).alloc (.cells #[.slice qP D.nP dP, .slice qW D.nW dW, .slice qC D.nC dC] 26)) := by go_grown
  refine (HE1.out _ (HC.out.below hb0) (HD.out.below hb0)).mono ?_; rintro e w1 ⟨rfl, hb⟩
  have HV0 := Lib.hid (bk_below hv0 hb)
  have HV1 := Lib.hid (bk_below hv1 hb)
  have HB := Lib.hid (bstep hb0 hb)
  have hl1 := bk_lt HV1.out
  have c1 : w1.cell? ⟨w.heap.size, 1, none⟩ = some (.slice pW C.nW cW) := (bk_cell HV0.out 1).trans rfl
  have e1 : w1.cell? ⟨w.heap.size + 1, 1, none⟩ = some (.slice qW D.nW dW) := (bk_cell HV1.out 1).trans rfl
  clear hv0 hv1 hb0 hb
  cases b1 with
  | false =>
    go_wp2_with fail
    go_ret
    exact ⟨by rw [HS.out]; rfl, HB.out⟩
  | true =>
    go_wp2_with fail
    refine (HE2.out _ (HC.out.below HB.out) (HD.out.below HB.out)).mono ?_; rintro e w2 ⟨rfl, hb⟩
    have HB2 := Lib.hid (bstep HB.out hb)
    have hl2 := bk_lt (bk_below HV1.out hb)
    have c2 : w2.cell? ⟨w.heap.size, 2, none⟩ = some (.slice pC C.nC cC) := (bk_cell (bk_below HV0.out hb) 2).trans rfl
    have e2 : w2.cell? ⟨w.heap.size + 1, 2, none⟩ = some (.slice qC D.nC dC) := (bk_cell (bk_below HV1.out hb) 2).trans rfl
    clear c1 e1 hb
    cases b2 with
    | false =>
      go_wp2_with fail
      go_ret
      exact ⟨by rw [HS.out]; rfl, HB2.out⟩
    | true =>
      go_wp2_with fail
      refine (HE3.out _ (HC.out.below HB2.out) (HD.out.below HB2.out)).mono ?_; rintro e w3 ⟨rfl, hb⟩
      have HB3 := Lib.hid (bstep HB2.out hb)
      clear c2 e2 hb
      go_wp2
      go_ret
      exact ⟨by rw [HS.out]; simp, HB3.out⟩
end Go.Proofs.Ythgoighpmnecbaa
namespace Go.Proofs.Ythgoighpmnecbaa
open Go.RowKit
set_option linter.unusedVariables false
set_option linter.unusedSimpArgs false
attribute [local go_sem high] PSame.eqA41 PSame.eqA44 PSame.eqA46
set_option maxHeartbeats 2000000 in
theorem rsame_len (C D : Cfg) (l k : Lay) (w : World) (h : ¬ (C.nP = D.nP ∧ C.nW = D.nW ∧ C.nC = D.nC)) :
    Calls Try.prog 18 #[.agg (cfgV C l), .agg (cfgV D k)] w fun e w' => e = .returned (.bool (sameB C D)) ∧ Below w.heap.size w w' := by
  have hr : sameB C D = false := by
    unfold sameB
    by_cases a : C.nP = D.nP
    · by_cases b : C.nW = D.nW
      · have : eq4 C.nC D.nC C.cf C.ct C.cc C.cw D.cf D.ct D.cc D.cw = false := decide_eq_false fun e => h ⟨a, b, e.1⟩
        simp [this]
      · have : eq2 C.nW D.nW C.wp C.wt D.wp D.wt = false := decide_eq_false fun e => b e.1
        simp [this]
    · have : eq2 C.nP D.nP C.q C.s D.q D.s = false := decide_eq_false fun e => a e.1
      simp [this]
  have HR := Lib.hid hr
  obtain ⟨pP, cP, pW, cW, pC, cC⟩ := l
  obtain ⟨qP, dP, qW, dW, qC, dC⟩ := k
  unfold cfgV at *
  simp only at *
  clear hr
  by_cases a : C.nP = D.nP
  · have a1 : ((C.nP : Int) != D.nP) = false := by simp [a]
    have a2 : ((C.nP : Int) == D.nP) = true := by simp [a]
    by_cases b : C.nW = D.nW
    · have b1 : ((C.nW : Int) != D.nW) = false := by simp [b]
      have b2 : ((C.nW : Int) == D.nW) = true := by simp [b]
      have c1 : ((C.nC : Int) != D.nC) = true := by simp only [bne, Bool.not_eq_true', beq_eq_false_iff_ne]; omega
      have c2 : ((C.nC : Int) == D.nC) = false := beq_eq_false_iff_ne.2 (by omega)
      clear a b h
      go_enter Try.func18, Try.ntmps18
      go_wp2
      go_ret
      exact ⟨by rw [HR.out]; rfl, by go_grown⟩
    · have b1 : ((C.nW : Int) != D.nW) = true := by simp only [bne, Bool.not_eq_true', beq_eq_false_iff_ne]; omega
      have b2 : ((C.nW : Int) == D.nW) = false := beq_eq_false_iff_ne.2 (by omega)
      clear a b h
      go_enter Try.func18, Try.ntmps18
      go_wp2
      go_ret
      exact ⟨by rw [HR.out]; rfl, by go_grown⟩
  · have a1 : ((C.nP : Int) != D.nP) = true := by simp only [bne, Bool.not_eq_true', beq_eq_false_iff_ne]; omega
    have a2 : ((C.nP : Int) == D.nP) = false := beq_eq_false_iff_ne.2 (by omega)
    clear a h
    go_enter Try.func18, Try.ntmps18
    go_wp2
    go_ret
    exact ⟨by rw [HR.out]; rfl, by go_grown⟩
set_option maxRecDepth 100000 in
set_option maxHeartbeats 4000000 in
theorem rsame_rows (C D : Cfg) (l k : Lay) (w : World) (hC : IsC w C l) (hD : IsC w D k) (hN : C.nP ≤ 1000000 ∧ C.nW ≤ 1000000 ∧ C.nC ≤ 1000000) (h : C.nP = D.nP ∧ C.nW = D.nW ∧ C.nC = D.nC) :
    Calls Try.prog 18 #[.agg (cfgV C l), .agg (cfgV D k)] w fun e w' => e = .returned (.bool (sameB C D)) ∧ Below w.heap.size w w' := by
  have HC := Lib.hid hC
  have HD := Lib.hid hD
  obtain ⟨pP, cP, pW, cW, pC, cC⟩ := l
  obtain ⟨qP, dP, qW, dW, qC, dC⟩ := k
  unfold cfgV at *
  simp only at *
  have HL0 := Lib.hid h.1
  have HL1 := Lib.hid h.2.1
  have HL2 := Lib.hid h.2.2
  rw [← h.1, ← h.2.1, ← h.2.2]
  clear hC hD
  clear h
  have a1 : ((C.nP : Int) != C.nP) = false := by simp
  have a2 : ((C.nP : Int) == C.nP) = true := by simp
  have b1 : ((C.nW : Int) != C.nW) = false := by simp
  have b2 : ((C.nW : Int) == C.nW) = true := by simp
  have c1 : ((C.nC : Int) != C.nC) = false := by simp
  have c2 : ((C.nC : Int) == C.nC) = true := by simp
  go_enter Try.func18, Try.ntmps18
  go_wp2_with fail
  clear a1 a2 b1 b2 c1 c2
  have hv1 : ((w.alloc (.cells #[.slice pP C.nP cP, .slice pW C.nW cW, .slice pC C.nC cC] 26)).alloc (.cells #[.slice qP C.nP dP, .slice qW C.nW dW, .slice qC C.nC dC] 26)).heap[w.heap.size + 1]? = some (.cells #[.slice qP C.nP dP, .slice qW C.nW dW, .slice qC C.nC dC] 26 (0, 0)) := by
    have := bk_new (w.alloc (.cells #[.slice pP C.nP cP, .slice pW C.nW cW, .slice pC C.nC cC] 26)) (.cells #[.slice qP C.nP dP, .slice qW C.nW dW, .slice qC C.nC dC] 26)
    rwa [World.size_alloc] at this
  have HV1 := Lib.hid hv1
  have HV0 := Lib.hid (show ((w.alloc (.cells #[.slice pP C.nP cP, .slice pW C.nW cW, .slice pC C.nC cC] 26)).alloc (.cells #[.slice qP C.nP dP, .slice qW C.nW dW, .slice qC C.nC dC] 26)).heap[w.heap.size]? = some (.cells #[.slice pP C.nP cP, .slice pW C.nW cW, .slice pC C.nC cC] 26 (0, 0)) from bk_alloc (bk_new w _) _)
  have HB0 := Lib.hid (show Below w.heap.size w ((w.alloc (.cells #[.slice pP C.nP cP, .slice pW C.nW cW, .slice pC C.nC cC] 26)).alloc (.cells #[.slice qP C.nP dP, .slice qW C.nW dW, .slice qC C.nC dC] 26)) by go_grown)
  clear hv1
  go_loopw [5] (fun iv W' => ∃ k : Nat, k ≤ C.nP ∧ iv = .int .i64 k ∧ (∀ i, i < k → C.q i = D.q i ∧ C.s i = D.s i) ∧ W'.heap[w.heap.size]? = some (.cells #[.slice pP C.nP cP, .slice pW C.nW cW, .slice pC C.nC cC] 26 (0, 0)) ∧ W'.heap[w.heap.size + 1]? = some (.cells #[.slice qP C.nP dP, .slice qW C.nW dW, .slice qC C.nC dC] 26 (0, 0)) ∧ Below w.heap.size w W') (fun iv _ => C.nP - (intOf iv).toNat)
  case atStart => exact ⟨0, by omega, rfl, fun i hi => by omega, HV0.out, HV1.out, HB0.out⟩
  case round =>
    obtain ⟨k, hk, rfl, he, hv0, hv1, hb⟩ := hrel
    have HE := Lib.hid he
    have HB := Lib.hid hb
    have HU0 := Lib.hid hv0
    have HU1 := Lib.hid hv1
    have hlt := bk_lt hv1
    have c0 : wr.cell? ⟨w.heap.size, 0, none⟩ = some (.slice pP C.nP cP) := (bk_cell hv0 0).trans rfl
    have c1 : wr.cell? ⟨w.heap.size + 1, 0, none⟩ = some (.slice qP C.nP dP) := (bk_cell hv1 0).trans rfl
    clear he hb hv0 hv1
    by_cases hkn : k < C.nP
    · have hkn' : (k : Int) < C.nP := by omega
      rcases HC.out.P with h0 | ⟨b, o, rfl, hc⟩
      · omega
      rcases HD.out.P with h0 | ⟨b', o', rfl, hc'⟩
      · have := HL0.out; omega
      have d0 := keepc HB.out (hc k hkn).1
      have e0 := keepc HB.out (hc' k (by have := HL0.out; omega)).1
      have d1 := keepc HB.out (hc k hkn).2
      have e1 := keepc HB.out (hc' k (by have := HL0.out; omega)).2
      clear hc hc'
      by_cases hx : C.q k = D.q k ∧ C.s k = D.s k
      · have hne : (C.q k == D.q k && (C.s k == D.s k)) = true := by simp [hx]
        have HX := Lib.hid hx
        clear hx
        go_wp2_with fail
        go_quiet (fail)
        go_wp2
        have hnext : ∀ i, i < k + 1 → C.q i = D.q i ∧ C.s i = D.s i := by
          intro i hi
          by_cases e : i = k
          · rw [e]; exact HX.out
          · exact HE.out i (by omega)
        exact ⟨⟨k + 1, by omega, by go_num, hnext, HU0.out, HU1.out, bdrewN HB.out nq⟩, by simp [intOf]; omega⟩
      · have hne : (C.q k == D.q k && (C.s k == D.s k)) = false := by
          simp only [Bool.and_eq_false_iff, beq_eq_false_iff_ne]
          by_cases a : C.q k = D.q k
          · exact .inr fun b => hx ⟨a, b⟩
          · exact .inl a
        have hr : sameB C D = false := by
          have h3 : eq2 C.nP D.nP C.q C.s D.q D.s = false := decide_eq_false fun h => hx (h.2 k hkn)
          simp [sameB, h3]
        have HR := Lib.hid hr
        clear hx hr
        go_wp2_with fail
        go_quiet (fail)
        go_wp2
        go_ret
        exact ⟨by rw [HR.out]; rfl, bdrewN HB.out nq⟩
    · obtain rfl : k = C.nP := by omega
      have hkn' : ¬ (C.nP : Int) < C.nP := by omega
      have HQ0 := Lib.hid (show eq2 C.nP D.nP C.q C.s D.q D.s = true from decide_eq_true ⟨HL0.out, HE.out⟩)
      go_wp2_with fail
      clear HV0 HV1 HB0 c0 c1
      have HV0 := HU0
      have HV1 := HU1
      have HB0 := HB
      clear HU0 HU1 HB hlt
      go_loopw [6] (fun iv W' => ∃ k : Nat, k ≤ C.nW ∧ iv = .int .i64 k ∧ (∀ i, i < k → C.wp i = D.wp i ∧ C.wt i = D.wt i) ∧ W'.heap[w.heap.size]? = some (.cells #[.slice pP C.nP cP, .slice pW C.nW cW, .slice pC C.nC cC] 26 (0, 0)) ∧ W'.heap[w.heap.size + 1]? = some (.cells #[.slice qP C.nP dP, .slice qW C.nW dW, .slice qC C.nC dC] 26 (0, 0)) ∧ Below w.heap.size w W') (fun iv _ => C.nW - (intOf iv).toNat)
      case atStart => exact ⟨0, by omega, rfl, fun i hi => by omega, HV0.out, HV1.out, HB0.out⟩
      case round =>
        obtain ⟨k, hk, rfl, he, hv0, hv1, hb⟩ := hrel
        have HE := Lib.hid he
        have HB := Lib.hid hb
        have HU0 := Lib.hid hv0
        have HU1 := Lib.hid hv1
        have hlt := bk_lt hv1
        have c0 : wr.cell? ⟨w.heap.size, 1, none⟩ = some (.slice pW C.nW cW) := (bk_cell hv0 1).trans rfl
        have c1 : wr.cell? ⟨w.heap.size + 1, 1, none⟩ = some (.slice qW C.nW dW) := (bk_cell hv1 1).trans rfl
        clear he hb hv0 hv1
        by_cases hkn : k < C.nW
        · have hkn' : (k : Int) < C.nW := by omega
          rcases HC.out.W with h0 | ⟨b, o, rfl, hc⟩
          · omega
          rcases HD.out.W with h0 | ⟨b', o', rfl, hc'⟩
          · have := HL1.out; omega
          have d0 := keepc HB.out (hc k hkn).1
          have e0 := keepc HB.out (hc' k (by have := HL1.out; omega)).1
          have d1 := keepc HB.out (hc k hkn).2
          have e1 := keepc HB.out (hc' k (by have := HL1.out; omega)).2
          clear hc hc'
          by_cases hx : C.wp k = D.wp k ∧ C.wt k = D.wt k
          · have hne : (C.wp k == D.wp k && (C.wt k == D.wt k)) = true := by simp [hx]
            have HX := Lib.hid hx
            clear hx
            go_wp2_with fail
            go_quiet (fail)
            go_wp2
            have hnext : ∀ i, i < k + 1 → C.wp i = D.wp i ∧ C.wt i = D.wt i := by
              intro i hi
              by_cases e : i = k
              · rw [e]; exact HX.out
              · exact HE.out i (by omega)
            exact ⟨⟨k + 1, by omega, by go_num, hnext, HU0.out, HU1.out, bdrewN HB.out nq⟩, by simp [intOf]; omega⟩
          · have hne : (C.wp k == D.wp k && (C.wt k == D.wt k)) = false := by
              simp only [Bool.and_eq_false_iff, beq_eq_false_iff_ne]
              by_cases a : C.wp k = D.wp k
              · exact .inr fun b => hx ⟨a, b⟩
              · exact .inl a
            have hr : sameB C D = false := by
              have h3 : eq2 C.nW D.nW C.wp C.wt D.wp D.wt = false := decide_eq_false fun h => hx (h.2 k hkn)
              simp [sameB, h3]
            have HR := Lib.hid hr
            clear hx hr
            go_wp2_with fail
            go_quiet (fail)
            go_wp2
            go_ret
            exact ⟨by rw [HR.out]; rfl, bdrewN HB.out nq⟩
        · obtain rfl : k = C.nW := by omega
          have hkn' : ¬ (C.nW : Int) < C.nW := by omega
          have HQ1 := Lib.hid (show eq2 C.nW D.nW C.wp C.wt D.wp D.wt = true from decide_eq_true ⟨HL1.out, HE.out⟩)
          go_wp2_with fail
          clear HV0 HV1 HB0 c0 c1
          have HV0 := HU0
          have HV1 := HU1
          have HB0 := HB
          clear HU0 HU1 HB hlt
          go_loopw [7] (fun iv W' => ∃ k : Nat, k ≤ C.nC ∧ iv = .int .i64 k ∧ (∀ i, i < k → C.cf i = D.cf i ∧ C.ct i = D.ct i ∧ C.cc i = D.cc i ∧ C.cw i = D.cw i) ∧ W'.heap[w.heap.size]? = some (.cells #[.slice pP C.nP cP, .slice pW C.nW cW, .slice pC C.nC cC] 26 (0, 0)) ∧ W'.heap[w.heap.size + 1]? = some (.cells #[.slice qP C.nP dP, .slice qW C.nW dW, .slice qC C.nC dC] 26 (0, 0)) ∧ Below w.heap.size w W') (fun iv _ => C.nC - (intOf iv).toNat)
          case atStart => exact ⟨0, by omega, rfl, fun i hi => by omega, HV0.out, HV1.out, HB0.out⟩
          case round =>
            obtain ⟨k, hk, rfl, he, hv0, hv1, hb⟩ := hrel
            have HE := Lib.hid he
            have HB := Lib.hid hb
            have HU0 := Lib.hid hv0
            have HU1 := Lib.hid hv1
            have hlt := bk_lt hv1
            have c0 : wr.cell? ⟨w.heap.size, 2, none⟩ = some (.slice pC C.nC cC) := (bk_cell hv0 2).trans rfl
            have c1 : wr.cell? ⟨w.heap.size + 1, 2, none⟩ = some (.slice qC C.nC dC) := (bk_cell hv1 2).trans rfl
            clear he hb hv0 hv1
            by_cases hkn : k < C.nC
            · have hkn' : (k : Int) < C.nC := by omega
              rcases HC.out.C with h0 | ⟨b, o, rfl, hc⟩
              · omega
              rcases HD.out.C with h0 | ⟨b', o', rfl, hc'⟩
              · have := HL2.out; omega
              have d0 := keepc HB.out (hc k hkn).1
              have e0 := keepc HB.out (hc' k (by have := HL2.out; omega)).1
              have d1 := keepc HB.out (hc k hkn).2.1
              have e1 := keepc HB.out (hc' k (by have := HL2.out; omega)).2.1
              have d2 := keepc HB.out (hc k hkn).2.2.1
              have e2 := keepc HB.out (hc' k (by have := HL2.out; omega)).2.2.1
              have d3 := keepc HB.out (hc k hkn).2.2.2
              have e3 := keepc HB.out (hc' k (by have := HL2.out; omega)).2.2.2
              clear hc hc'
              by_cases hx : C.cf k = D.cf k ∧ C.ct k = D.ct k ∧ C.cc k = D.cc k ∧ C.cw k = D.cw k
              · have hne : (C.cf k == D.cf k && (C.ct k == D.ct k && (C.cc k == D.cc k && (C.cw k == D.cw k)))) = true := by simp [hx]
                have HX := Lib.hid hx
                clear hx
                go_wp2_with fail
                go_quiet (fail)
                go_wp2
                have hnext : ∀ i, i < k + 1 → C.cf i = D.cf i ∧ C.ct i = D.ct i ∧ C.cc i = D.cc i ∧ C.cw i = D.cw i := by
                  intro i hi
                  by_cases e : i = k
                  · rw [e]; exact HX.out
                  · exact HE.out i (by omega)
                exact ⟨⟨k + 1, by omega, by go_num, hnext, HU0.out, HU1.out, bdrewN HB.out nq⟩, by simp [intOf]; omega⟩
              · have hne : (C.cf k == D.cf k && (C.ct k == D.ct k && (C.cc k == D.cc k && (C.cw k == D.cw k)))) = false := by
                  simp only [Bool.and_eq_false_iff, beq_eq_false_iff_ne]
                  by_cases a : C.cf k = D.cf k
                  · refine .inr ?_
                    by_cases a2 : C.ct k = D.ct k
                    · refine .inr ?_
                      by_cases a3 : C.cc k = D.cc k
                      · exact .inr fun b => hx ⟨a, a2, a3, b⟩
                      · exact .inl a3
                    · exact .inl a2
                  · exact .inl a
                have hr : sameB C D = false := by
                  have h3 : eq4 C.nC D.nC C.cf C.ct C.cc C.cw D.cf D.ct D.cc D.cw = false := decide_eq_false fun h => hx (h.2 k hkn)
                  simp [sameB, h3]
                have HR := Lib.hid hr
                clear hx hr
                go_wp2_with fail
                go_quiet (fail)
                go_wp2
                go_ret
                exact ⟨by rw [HR.out]; rfl, bdrewN HB.out nq⟩
            · obtain rfl : k = C.nC := by omega
              have hkn' : ¬ (C.nC : Int) < C.nC := by omega
              have HQ2 := Lib.hid (show eq4 C.nC D.nC C.cf C.ct C.cc C.cw D.cf D.ct D.cc D.cw = true from decide_eq_true ⟨HL2.out, HE.out⟩)
              go_wp2
              go_ret
              exact ⟨by rw [show sameB C D = true by simp only [sameB, HQ0.out, HQ1.out, HQ2.out, Bool.and_self]]; rfl, HB.out⟩
theorem rsame_any (C D : Cfg) (l k : Lay) (w : World) (hC : IsC w C l) (hD : IsC w D k) (hN : C.nP ≤ 1000000 ∧ C.nW ≤ 1000000 ∧ C.nC ≤ 1000000) :
    Calls Try.prog 18 #[.agg (cfgV C l), .agg (cfgV D k)] w fun e w' => e = .returned (.bool (sameB C D)) ∧ Below w.heap.size w w' := by
  by_cases h : C.nP = D.nP ∧ C.nW = D.nW ∧ C.nC = D.nC
  · exact rsame_rows C D l k w hC hD hN h
  · exact rsame_len C D l k w h
end Go.Proofs.Ythgoighpmnecbaa
