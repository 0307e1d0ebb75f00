/- Helper text of this seat (Play): contracts of functions of the given program and of its references, each told by its theorem. -/
import Derived.Test.YthdmbnbamlmciaaRQ
namespace Go.Proofs.Ythdmbnbamlmciaa
open Go.RowKit
set_option linter.unusedVariables false
set_option linter.unusedSimpArgs false
theorem IsL.rest {w : World} {g b o c : Nat} {x : Int} {L : List Int} (h : IsL w g (.slice (some ⟨b, o, none⟩) (L.length + 1) c) (x :: L)) (hc1 : ¬ c = 1) : IsL w g (.slice (some ⟨b, o + 1, none⟩) L.length (c - 1)) L := by
  obtain ⟨p, c', e, hs, hlc, hpc, hpg⟩ := h
  simp only [List.length_cons, Value.slice.injEq] at e
  obtain ⟨rfl, _, rfl⟩ := e
  rcases hs with h0 | ⟨b', o', e', hc⟩
  · simp at h0
  · simp only [Option.some.injEq, Addr.mk.injEq] at e'
    obtain ⟨rfl, rfl, _⟩ := e'
    refine ⟨_, _, rfl, rest_sl hc, ?_, fun h => by simp at h, fun a h => ?_⟩
    · simp at hlc
      omega
    · simp only [Option.some.injEq] at h
      rw [← h]
      exact hpg ⟨b, o, none⟩ rfl
theorem IsL.rest1 {w : World} {g b o : Nat} {x : Int} (h : IsL w g (.slice (some ⟨b, o, none⟩) 1 1) [x]) : IsL w g (.slice (some ⟨b, o, none⟩) 0 0) [] := by
  obtain ⟨p, c', e, hs, hlc, hpc, hpg⟩ := h
  simp only [Value.slice.injEq] at e
  obtain ⟨rfl, _, rfl⟩ := e
  exact ⟨_, 0, rfl, .inl rfl, by simp, fun h => by simp at h, hpg⟩
/-- one call on both -/
def Played (g : Nat) (w : World) (e : Ending) (w' : World) : Prop := ∃ v' L', e = .returned (.tuple #[v', .bool true]) ∧ IsQ w' g L' ∧ IsL w' g v' L' ∧ Kept g w w'
theorem alloc_below (w : World) (o : Obj) : Below w.heap.size w (w.alloc o) := (Below.refl _ _).alloc (Nat.le_refl _) _
set_option maxHeartbeats 2000000 in
theorem play_any (g : Nat) (v : Value) (L : List Int) (D n : Int) (w : World) (hq : IsQ w g L) (hl : IsL w g v L) :
    Calls Try.prog 16 #[.pointer (some ⟨g, 0, none⟩), v, .agg #[.int .i64 D, .int .i64 n]] w (Played g w) := by
  have hgood : Good L := by obtain ⟨_, _, _, _, _, _, hg⟩ := hq; exact hg
  have hg := hq.lt
  have hgl : g < (w.alloc (.cells #[.int .i64 D, .int .i64 n] 40)).heap.size := by simp; omega
  have HQ := Lib.hid (hq.below (alloc_below w (.cells #[.int .i64 D, .int .i64 n] 40)))
  have HL := Lib.hid (hl.below (alloc_below w (.cells #[.int .i64 D, .int .i64 n] 40)))
  have HK := Lib.hid (Kept.of_below (g := g) (alloc_below w (.cells #[.int .i64 D, .int .i64 n] 40)))
  have HG := Lib.hid hgood
  have hc1 : (w.alloc (.cells #[.int .i64 D, .int .i64 n] 40)).cell? ⟨w.heap.size, 1, none⟩ = some (.int .i64 n) := (bk_cell (bk_new w _) 1).trans rfl
  have HC1 := Lib.hid hc1
  clear hq hl hgood hc1
  by_cases h1 : D = 1
  · subst h1
    go_enter Try.func16, Try.ntmps16
    go_wp2_with fail
    refine (rpush_any g v L n _ HL.out HG.out hgl).mono ?_; rintro e w1 ⟨v1, rfl, hl1, hb1⟩
    have HL1 := Lib.hid hl1
    have HQ1 := Lib.hid (HQ.out.below hb1)
    have HK1 := Lib.hid (HK.out.then_below hb1)
    have c1 := keepc hb1 HC1.out
    clear hl1 hb1
    go_wp2_with fail
    refine (push_any g L n _ HQ1.out).mono ?_; rintro e w2 ⟨rfl, hq2, hk2⟩
    have HQ2 := Lib.hid hq2
    have HL2 := Lib.hid (HL1.out.kept hk2)
    have HK2 := Lib.hid (HK1.out.trans hk2)
    clear hq2 hk2 c1
    go_wp2
    go_ret2
    exact ⟨_, _, by simp, HQ2.out, HL2.out, HK2.out⟩
  have t1 : (D == 1) = false := beq_eq_false_iff_ne.2 h1
  by_cases h2 : D = 2
  · subst h2
    cases L with
    | nil =>
      obtain ⟨p, c, rfl, hs, hlc, hpc, hpg⟩ := HL.out
      simp only [List.length_nil] at *
      clear hs hpc hpg
      go_enter Try.func16, Try.ntmps16
      go_wp2_with fail
      refine (pop_none g _ HQ.out).mono ?_; rintro e w1 ⟨rfl, hb1⟩
      have HQ1 := Lib.hid (HQ.out.below hb1)
      have HL1 := Lib.hid (HL.out.below hb1)
      have HK1 := Lib.hid (HK.out.then_below hb1)
      clear hb1
      go_wp2
      go_ret2
      exact ⟨_, _, by simp, HQ1.out, HL1.out, HK1.out⟩
    | cons x L =>
      obtain ⟨p, c, rfl, hs, hlc, hpc, hpg⟩ := HL.out
      rcases hs with h0 | ⟨b, o, rfl, hc⟩
      · simp at h0
      have cx := hc 0 (by simp)
      simp at cx
      have hbg : b ≠ g := hpg _ rfl
      simp only [List.length_cons] at hlc ⊢
      have HL' : Hid (IsL (w.alloc (.cells #[.int .i64 2, .int .i64 n] 40)) g (.slice (some ⟨b, o, none⟩) (L.length + 1) c) (x :: L)) := HL
      have t0 : ((L.length : Int) + 1 == 0) = false := beq_eq_false_iff_ne.2 (by omega)
      have t2 : (1 : Int) ≤ (L.length : Int) + 1 := by omega
      have t3 : (L.length : Int) + 1 ≤ c := by omega
      have t4 : (0 : Int) < (L.length : Int) + 1 := by omega
      have HX := Lib.hid cx
      clear hc hpc hpg cx
      by_cases hc1 : c = 1
      · have hL0 : L = [] := List.length_eq_zero_iff.1 (by omega)
        subst hL0
        subst hc1
        simp only [List.length_nil] at *
        go_enter Try.func16, Try.ntmps16
        go_wp2_with fail
        refine (pop_some g x _ _ HQ.out).mono ?_; rintro e w1 ⟨rfl, hq1, hk1⟩
        have HQ1 := Lib.hid hq1
        have cx1 := hk1.cell HX.out hbg
        have HL1 := Lib.hid (HL'.out.kept hk1)
        have HK1 := Lib.hid (HK.out.trans hk1)
        clear hq1 hk1
        go_wp2_with fail
        go_quiet (fail)
        go_wp2
        go_ret2
        exact ⟨_, _, by simp, HQ1.out.b (B := w1.heap.size) (bdrewN (Below.refl _ _) _) HQ1.out.lt, (HL1.out.rest1.below (bdrewN (Below.refl _ _) _)), HK1.out.drewN _⟩
      · go_enter Try.func16, Try.ntmps16
        go_wp2_with fail
        refine (pop_some g x _ _ HQ.out).mono ?_; rintro e w1 ⟨rfl, hq1, hk1⟩
        have HQ1 := Lib.hid hq1
        have cx1 := hk1.cell HX.out hbg
        have HL1 := Lib.hid (HL'.out.kept hk1)
        have HK1 := Lib.hid (HK.out.trans hk1)
        clear hq1 hk1
        go_wp2_with fail
        go_quiet (fail)
        go_wp2
        go_ret2
        exact ⟨_, _, by simp, HQ1.out.b (B := w1.heap.size) (bdrewN (Below.refl _ _) _) HQ1.out.lt, ((HL1.out.rest hc1).below (bdrewN (Below.refl _ _) _)), HK1.out.drewN _⟩
  have t2 : (D == 2) = false := beq_eq_false_iff_ne.2 h2
  by_cases h3 : D = 3
  · subst h3
    go_enter Try.func16, Try.ntmps16
    go_wp2_with fail
    refine (rdrop_any g v L n _ HL.out HG.out hgl).mono ?_; rintro e w1 ⟨v1, rfl, hl1, hb1⟩
    have HL1 := Lib.hid hl1
    have HQ1 := Lib.hid (HQ.out.below hb1)
    have HK1 := Lib.hid (HK.out.then_below hb1)
    have c1 := keepc hb1 HC1.out
    clear hl1 hb1
    go_wp2_with fail
    refine (drop_any g L n _ HQ1.out).mono ?_; rintro e w2 ⟨rfl, hq2, hk2⟩
    have HQ2 := Lib.hid hq2
    have HL2 := Lib.hid (HL1.out.kept hk2)
    have HK2 := Lib.hid (HK1.out.trans hk2)
    clear hq2 hk2 c1
    go_wp2
    go_ret2
    exact ⟨_, _, by simp, HQ2.out, HL2.out, HK2.out⟩
  have t3 : (D == 3) = false := beq_eq_false_iff_ne.2 h3
  by_cases h4 : D = 4
  · subst h4
    cases L with
    | nil =>
      go_enter Try.func16, Try.ntmps16
      go_wp2_with fail
      refine (rturn_none g v _ HL.out).mono ?_; rintro e w1 ⟨rfl, rfl⟩
      go_wp2_with fail
      refine (turn_none g _ HQ.out).mono ?_; rintro e w2 ⟨rfl, hb2⟩
      have HQ2 := Lib.hid (HQ.out.below hb2)
      have HL2 := Lib.hid (HL.out.below hb2)
      have HK2 := Lib.hid (HK.out.then_below hb2)
      clear hb2
      go_wp2
      go_ret2
      exact ⟨_, _, by simp, HQ2.out, HL2.out, HK2.out⟩
    | cons x L =>
      go_enter Try.func16, Try.ntmps16
      go_wp2_with fail
      refine (rturn_some g v x L _ HL.out HG.out hgl).mono ?_; rintro e w1 ⟨v1, rfl, hl1, hb1⟩
      have HL1 := Lib.hid hl1
      have HQ1 := Lib.hid (HQ.out.below hb1)
      have HK1 := Lib.hid (HK.out.then_below hb1)
      clear hl1 hb1
      go_wp2_with fail
      refine (turn_some g x L _ HQ1.out).mono ?_; rintro e w2 ⟨rfl, hq2, hk2⟩
      have HQ2 := Lib.hid hq2
      have HL2 := Lib.hid (HL1.out.kept hk2)
      have HK2 := Lib.hid (HK1.out.trans hk2)
      clear hq2 hk2
      go_wp2
      go_ret2
      exact ⟨_, _, by simp, HQ2.out, HL2.out, HK2.out⟩
  have t4 : (D == 4) = false := beq_eq_false_iff_ne.2 h4
  go_enter Try.func16, Try.ntmps16
  go_wp2
  go_ret2
  exact ⟨_, _, by simp, HQ.out, HL.out, HK.out⟩
end Go.Proofs.Ythdmbnbamlmciaa
