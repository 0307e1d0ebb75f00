/- The reference's calls of a queue, on rows in memory. -/
import Derived.Test.YthdmbnbamlmciaaLDrops
namespace Go.Proofs.Ythdmbnbamlmciaa
open Go.RowKit
set_option linter.unusedVariables false
set_option linter.unusedSimpArgs false
/-- a row that reads as a list, not in block g -/
def IsL (w : World) (g : Nat) (v : Value) (L : List Int) : Prop := ∃ p c, v = .slice p L.length c ∧ Sl w .i64 p L.length (fun i => L.getD i 0) ∧ L.length ≤ c ∧ (p = none → c = 0) ∧ (∀ a, p = some a → a.block ≠ g)
theorem IsL.nil (w : World) (g : Nat) : IsL w g (.slice none 0 0) [] := ⟨none, 0, rfl, .inl rfl, by simp, fun _ => rfl, fun a h => by simp at h⟩
theorem IsL.below {w w' : World} {g : Nat} {v : Value} {L : List Int} (h : IsL w g v L) (hb : Below w.heap.size w w') : IsL w' g v L := by
  obtain ⟨p, c, h1, h2, h3⟩ := h
  exact ⟨p, c, h1, h2.below hb, h3⟩
theorem IsL.kept {w w' : World} {g : Nat} {v : Value} {L : List Int} (h : IsL w g v L) (k : Kept g w w') : IsL w' g v L := by
  obtain ⟨p, c, h1, h2, h3, h4, h5⟩ := h
  exact ⟨p, c, h1, h2.kept k fun b o e => h5 _ e, h3, h4, h5⟩
theorem own_isl {w : World} {B e g : Nat} {v : Value} {zs : List Int} (h : w.ownsInts B e .i64 v zs) (hg : g < B) : IsL w g v zs := by
  obtain ⟨a, c, h1, h2, h3⟩ := own_sl h
  obtain ⟨⟨_, h'⟩, _⟩ := h
  rcases h' with ⟨e1, e2⟩ | ⟨b, cap, cur, e1, hB, _, hn, _⟩
  · rw [e1] at h1
    simp only [Value.slice.injEq] at h1
    obtain ⟨rfl, h1, rfl⟩ := h1
    exact ⟨none, 0, by rw [e1, h1], h2, by omega, fun _ => rfl, fun a h => by simp at h⟩
  · refine ⟨some ⟨b, 0, none⟩, cap, e1, ?_, hn, fun h => by simp at h, fun a h => ?_⟩
    · rw [e1] at h1
      simp only [Value.slice.injEq] at h1
      rw [h1.1]
      exact h2
    · simp only [Option.some.injEq] at h
      rw [← h]
      show b ≠ g
      omega
theorem own_empty {w : World} {base e : Nat} {q : IntKind} (hbase : base ≤ w.heap.size) : (w.alloc (.cells #[] e)).ownsInts base e q (.slice (some ⟨w.heap.size, 0, none⟩) 0 0) [] :=
  ⟨⟨rfl, .inr ⟨w.heap.size, 0, #[], rfl, hbase, bk_new w _, Nat.le_refl _, by simp [maxLen], rfl, rfl⟩⟩, fun z hz => by simp at hz⟩
set_option maxHeartbeats 1000000 in
theorem rpush_any (g : Nat) (v : Value) (L : List Int) (n : Int) (w : World) (h : IsL w g v L) (hL : Good L) (hg : g < w.heap.size) :
    Calls Try.prog 22 #[v, .int .i64 n] w fun e w' => ∃ v', e = .returned (.tuple #[v', .int .i64 (pushE L n)]) ∧ IsL w' g v' (pushL L n) ∧ Below w.heap.size w w' := by
  have h' := h
  obtain ⟨p, c, rfl, hs, hlc, hpc, hpg⟩ := h'
  have hL8 := hL.le
  have HL := Lib.hid h
  have HS := Lib.hid hs
  have HPC := Lib.hid hpc
  have HG := Lib.hid hL
  clear h hs hpc hpg hL
  by_cases h1 : n < 1 ∨ 8 < n
  · have he : pushE L n = 2 := by simp [pushE, h1]
    have hl : pushL L n = L := by simp [pushL, he]
    rw [he, hl]
    clear he hl
    have h1' : n < 1 ∨ (¬ n < 1 ∧ 8 < n) := by omega
    rcases h1' with k1 | ⟨k1, k2⟩
    all_goals
      go_enter Try.func22, Try.ntmps22
      go_wp2
      go_ret2
      exact ⟨_, rfl, HL.out, Below.refl _ _⟩
  · have k1 : ¬ n < 1 := by omega
    have k2 : ¬ 8 < n := by omega
    by_cases h2 : n ∈ L
    · have he : pushE L n = 5 := by simp [pushE, h1, h2]
      have hl : pushL L n = L := by simp [pushL, he]
      have hh : hasB L n = true := by simp [hasB, h2]
      have HH := Lib.hid hh
      rw [he, hl]
      clear he hl hh h2 h1
      go_enter Try.func22, Try.ntmps22
      go_wp2_with fail
      refine (has_any p c L n _ HS.out (by omega)).mono ?_; rintro e w1 ⟨rfl, rfl⟩
      rw [HH.out]
      go_wp2
      go_ret2
      exact ⟨_, rfl, HL.out, Below.refl _ _⟩
    · have he : pushE L n = 0 := by simp [pushE, h1, h2]
      have hl : pushL L n = L ++ [n] := by simp [pushL, he]
      have hh : hasB L n = false := by simp [hasB, h2]
      have HH := Lib.hid hh
      rw [he, hl]
      clear he hl hh h2 h1
      go_enter Try.func22, Try.ntmps22
      go_wp2_with fail
      refine (has_any p c L n _ HS.out (by omega)).mono ?_; rintro e w1 ⟨rfl, rfl⟩
      rw [HH.out]
      have hS1 : Sl (w1.alloc (.cells #[] 3)) .i64 p L.length (fun i => L.getD i 0) := HS.out.below (by go_grown)
      have HS1 := Lib.hid hS1
      clear hS1
      go_wp2_with (at_builtin; refine appN rfl _ _ _ rfl ie22 _ [] L (by rfl) (own_empty (Nat.le_refl _)) p c (by rfl) (fun e => ⟨List.length_eq_zero_iff.1 (by have := HPC.out e; omega), HPC.out e⟩) HS1.out (fun z hz => wf_small (by have := HG.out.2 z hz; omega) (by have := HG.out.2 z hz; omega)) (by simp; omega) ?c1 ?_)
      (first | (case c1 => simp) | skip)
      intro v' w2 o2 hb2 hg2
      have HO2 := Lib.hid o2
      have HB2 := Lib.hid ((show Below w1.heap.size w1 (w1.alloc (.cells #[] 3)) from by go_grown).trans hb2)
      have hz2 := HB2.out.size
      clear o2 hb2 hg2
      go_wp2_with (at_builtin; refine app1 rfl _ _ _ rfl ie22 _ L n (by rfl) HO2.out (by rfl) (wf_small (by omega) (by omega)) (by omega) hz2 ?_; intro v3 w3 o3 hb3 hg3)
      have HO3 := Lib.hid o3
      have HB3 := Lib.hid (HB2.out.trans hb3)
      clear o3 hb3 hg3
      go_wp2
      go_ret2
      exact ⟨_, rfl, own_isl HO3.out hg, HB3.out⟩
/-- what Drop keeps of a list -/
def keepL (L : List Int) (n : Int) : List Int := L.filter fun x => x != n
theorem keepL_snoc (A : List Int) (n x : Int) : keepL (A ++ [x]) n = if x != n then keepL A n ++ [x] else keepL A n := by
  unfold keepL
  rw [List.filter_append]
  cases h : x != n <;> simp [h]
theorem keepL_erase {L : List Int} (h : L.Nodup) (n : Int) : keepL L n = L.erase n := (h.erase_eq_filter n).symm
set_option maxHeartbeats 2000000 in
theorem rdrop_any (g : Nat) (v : Value) (L : List Int) (n : Int) (w : World) (h : IsL w g v L) (hL : Good L) (hg : g < w.heap.size) :
    Calls Try.prog 23 #[v, .int .i64 n] w fun e w' => ∃ v', e = .returned (.tuple #[v', .int .i64 (dropE L n)]) ∧ IsL w' g v' (L.erase n) ∧ Below w.heap.size w w' := by
  have h' := h
  obtain ⟨p, c, rfl, hs, hlc, hpc, hpg⟩ := h'
  have hL8 := hL.le
  have HL := Lib.hid h
  have HS := Lib.hid hs
  have HG := Lib.hid hL
  clear h hs hpc hpg hL
  by_cases h1 : n < 1 ∨ 8 < n
  · have he : dropE L n = 2 := by simp [dropE, h1]
    have hl : L.erase n = L := erase_not fun hn => by have := HG.out.2 n hn; omega
    rw [he, hl]
    clear he hl
    have h1' : n < 1 ∨ (¬ n < 1 ∧ 8 < n) := by omega
    rcases h1' with k1 | ⟨k1, k2⟩
    all_goals
      go_enter Try.func23, Try.ntmps23
      go_wp2
      go_ret2
      exact ⟨_, rfl, HL.out, Below.refl _ _⟩
  · have k1 : ¬ n < 1 := by omega
    have k2 : ¬ 8 < n := by omega
    by_cases h2 : n ∈ L
    · have he : dropE L n = 0 := by simp [dropE, h1, h2]
      have hh : hasB L n = true := by simp [hasB, h2]
      have HH := Lib.hid hh
      rw [he, ← keepL_erase HG.out.1]
      clear he hh h2 h1
      go_enter Try.func23, Try.ntmps23
      go_wp2_with fail
      refine (has_any p c L n _ HS.out (by omega)).mono ?_; rintro e w1 ⟨rfl, rfl⟩
      rw [HH.out]
      go_wp2_with fail
      go_loopw [6, 7] (fun v i W' => ∃ j : Nat, j ≤ L.length ∧ i = .int .i64 j ∧ W'.ownsInts w1.heap.size 3 .i64 v (keepL (L.take j) n) ∧ Below w1.heap.size w1 W') (fun _ i _ => L.length - (intOf i).toNat)
      case atStart => exact ⟨0, by omega, rfl, World.ownsInts_nil _ _ _ _, Below.refl _ _⟩
      case round =>
        obtain ⟨j, hj, rfl, ho, hb⟩ := hrel
        by_cases hjL : j < L.length
        · have hjL' : (j : Int) < L.length := by omega
          obtain ⟨x, e1, e2, e3, e4⟩ := rot_step L j hjL
          have hx := HG.out.2 x e4
          rcases HS.out with h0 | ⟨b, o, e5, hc⟩
          · omega
          subst e5
          have cx := keepc hb (hc j hjL)
          simp only [e3] at cx
          have hkl : (keepL (L.take j) n).length < 100000000 := by
            have := List.length_filter_le (fun x => x != n) (L.take j)
            rw [List.length_take] at this
            unfold keepL
            omega
          have hz := hb.size
          have HO := Lib.hid ho
          have HB := Lib.hid hb
          have HE2 := Lib.hid e2
          clear ho hb hc e1 e2 e3 e4
          cases hne : x != n with
          | false =>
            have HNE := Lib.hid hne
            go_wp2
            refine ⟨⟨j + 1, by omega, by go_num, ?_, HB.out⟩, by simp [intOf]; omega⟩
            rw [HE2.out, keepL_snoc, if_neg (by rw [HNE.out]; simp)]
            exact HO.out
          | true =>
            have HNE := Lib.hid hne
            go_wp2_with (at_builtin; refine app1 rfl _ _ _ rfl ie22 _ (keepL (L.take j) n) x (by rfl) HO.out (by rfl) (wf_small (by omega) (by omega)) hkl hz ?_; intro v' w6 o6 hb6 hg6)
            refine ⟨⟨j + 1, by omega, by go_num, ?_, HB.out.trans hb6⟩, by simp [intOf]; omega⟩
            rw [HE2.out, keepL_snoc, if_pos HNE.out]
            exact o6
        · have hjn : j = L.length := by omega
          subst hjn
          rw [List.take_length] at ho
          have HO := Lib.hid ho
          have HB := Lib.hid hb
          clear ho hb
          go_wp2
          go_ret2
          exact ⟨_, rfl, own_isl HO.out hg, HB.out⟩
    · have he : dropE L n = 4 := by simp [dropE, h1, h2]
      have hl : L.erase n = L := erase_not h2
      have hh : hasB L n = false := by simp [hasB, h2]
      have HH := Lib.hid hh
      rw [he, hl]
      clear he hl hh h2 h1
      go_enter Try.func23, Try.ntmps23
      go_wp2_with fail
      refine (has_any p c L n _ HS.out (by omega)).mono ?_; rintro e w1 ⟨rfl, rfl⟩
      rw [HH.out]
      go_wp2
      go_ret2
      exact ⟨_, rfl, HL.out, Below.refl _ _⟩
theorem rturn_none (g : Nat) (v : Value) (w : World) (h : IsL w g v []) :
    Calls Try.prog 24 #[v] w fun e w' => e = .returned (.tuple #[v, .int .i64 4]) ∧ w' = w := by
  obtain ⟨p, c, rfl, hs, hlc, hpc, hpg⟩ := h
  simp only [List.length_nil]
  clear hs hpc hpg
  go_enter Try.func24, Try.ntmps24
  go_wp2
  go_ret2
  exact ⟨rfl, rfl⟩
/-- a row's rest, as 'l[1:]' makes it -/
def restV (b o n c : Nat) : Value := if c = 1 then .slice (some ⟨b, o, none⟩) n 0 else .slice (some ⟨b, o + 1, none⟩) n (c - 1)
theorem rest_sl {w : World} {b o : Nat} {x : Int} {L : List Int} (hc : ∀ i, i < (x :: L).length → w.cell? ⟨b, o + i, none⟩ = some (.int .i64 ((x :: L).getD i 0))) : Sl w .i64 (some ⟨b, o + 1, none⟩) L.length (fun i => L.getD i 0) := by
  refine .inr ⟨b, o + 1, rfl, fun i hi => ?_⟩
  have := hc (i + 1) (by simp; omega)
  rw [show o + 1 + i = o + (i + 1) from by omega]
  simpa using this
set_option maxHeartbeats 1000000 in
theorem rturn_some (g : Nat) (v : Value) (x : Int) (L : List Int) (w : World) (h : IsL w g v (x :: L)) (hL : Good (x :: L)) (hg : g < w.heap.size) :
    Calls Try.prog 24 #[v] w fun e w' => ∃ v', e = .returned (.tuple #[v', .int .i64 0]) ∧ IsL w' g v' (L ++ [x]) ∧ Below w.heap.size w w' := by
  obtain ⟨p, c, rfl, hs, hlc, hpc, hpg⟩ := h
  have hL8 := hL.le
  rcases hs with h0 | ⟨b, o, rfl, hc⟩
  · simp at h0
  have c0 := hc 0 (by simp)
  simp at c0
  have hr := rest_sl hc
  have hx := hL.2 x (by simp)
  have HR := Lib.hid hr
  have HG := Lib.hid hL
  have c0' : (w.alloc (.cells #[] 3)).cell? ⟨b, o, none⟩ = some (.int .i64 x) := keepc (by go_grown) c0
  have HC0 := Lib.hid c0
  clear hr hL hc hpc hpg c0 c0'
  simp only [List.length_cons] at hlc hL8 ⊢
  have t0 : ((L.length : Int) + 1 == 0) = false := beq_eq_false_iff_ne.2 (by omega)
  have t1 : (1 : Int) ≤ (L.length : Int) + 1 := by omega
  have t2 : (L.length : Int) + 1 ≤ c := by omega
  have hb := block_lt_of_cell HC0.out
  have hwfL : ∀ z ∈ L, (Lit.int .i64 z).wf = true := fun z hz => wf_small (by have := HG.out.2 z (by simp [hz]); omega) (by have := HG.out.2 z (by simp [hz]); omega)
  have HW := Lib.hid hwfL
  have hS1 : Sl (w.alloc (.cells #[] 3)) .i64 (some ⟨b, o + 1, none⟩) L.length (fun i => L.getD i 0) := HR.out.below (by go_grown)
  have HS1 := Lib.hid hS1
  clear hwfL hS1
  by_cases hc1 : c = 1
  · have hL0 : L = [] := List.length_eq_zero_iff.1 (by omega)
    subst hL0
    subst hc1
    simp only [List.length_nil] at *
    have c0' : (w.alloc (.cells #[] 3)).cell? ⟨b, o, none⟩ = some (.int .i64 x) := keepc (by go_grown) HC0.out
    go_enter Try.func24, Try.ntmps24
    go_wp2_with (at_builtin; refine appN rfl _ _ _ rfl ie22 _ [] [] (by rfl) (own_empty (Nat.le_refl _)) (some ⟨b, o, none⟩) 0 (by rfl) (fun e => by simp at e) (.inl rfl) (fun z hz => by simp at hz) (by simp) ?c1 ?_)
    (first | (case c1 => simp) | skip)
    intro v' w2 o2 hb2 hg2
    have HO2 := Lib.hid o2
    have HB2 := Lib.hid ((show Below w.heap.size w (w.alloc (.cells #[] 3)) from by go_grown).trans hb2)
    have hz2 := HB2.out.size
    have c2 : w2.cell? ⟨b, o, none⟩ = some (.int .i64 x) := keepc HB2.out HC0.out
    clear o2 hb2 hg2
    go_wp2_with (at_builtin; refine app1 rfl _ _ _ rfl ie22 _ [] x (by rfl) HO2.out (by rfl) (wf_small (by omega) (by omega)) (by simp) hz2 ?_; intro v3 w3 o3 hb3 hg3)
    have HO3 := Lib.hid o3
    have HB3 := Lib.hid (HB2.out.trans hb3)
    clear o3 hb3 hg3
    go_wp2
    go_ret2
    exact ⟨_, rfl, own_isl HO3.out hg, HB3.out⟩
  · go_enter Try.func24, Try.ntmps24
    go_wp2_with (at_builtin; refine appN rfl _ _ _ rfl ie22 _ [] L (by rfl) (own_empty (Nat.le_refl _)) (some ⟨b, o + 1, none⟩) (c - 1) (by rfl) (fun e => by simp at e) HS1.out HW.out (by simp; omega) ?c1 ?_)
    (first | (case c1 => simp) | skip)
    intro v' w2 o2 hb2 hg2
    have HO2 := Lib.hid o2
    have HB2 := Lib.hid ((show Below w.heap.size w (w.alloc (.cells #[] 3)) from by go_grown).trans hb2)
    have hz2 := HB2.out.size
    have c2 : w2.cell? ⟨b, o, none⟩ = some (.int .i64 x) := keepc HB2.out HC0.out
    have t3 : (0 : Int) < (L.length : Int) + 1 := by omega
    clear o2 hb2 hg2
    go_wp2_with (at_builtin; refine app1 rfl _ _ _ rfl ie22 _ L x (by rfl) HO2.out (by rfl) (wf_small (by omega) (by omega)) (by omega) hz2 ?_; intro v3 w3 o3 hb3 hg3)
    have HO3 := Lib.hid o3
    have HB3 := Lib.hid (HB2.out.trans hb3)
    clear o3 hb3 hg3
    go_wp2
    go_ret2
    exact ⟨_, rfl, own_isl HO3.out hg, HB3.out⟩
end Go.Proofs.Ythdmbnbamlmciaa
