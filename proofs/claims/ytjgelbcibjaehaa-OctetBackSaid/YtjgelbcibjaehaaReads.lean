/- Helper text of this seat (Reads): contracts of functions of the given program and of its references, each told by its theorem. -/
import Derived.Test.YtjgelbcibjaehaaRRdr
import Derived.Deep.RegionWith
import Derived.Deep.RegionHeld3
namespace Go.Proofs.Ytjgelbcibjaehaa
open Go.RowKit
set_option linter.unusedVariables false
set_option linter.unusedSimpArgs false
/-- the calls' row, as it lies -/
def Ops (w : World) (b o L : Nat) (D : Nat → Int) (T : Nat → ByteArray) : Prop := ∀ i, i < L → w.cell? ⟨b, o + i * 2, none⟩ = some (.int .i64 (D i)) ∧ w.cell? ⟨b, o + i * 2 + 1, none⟩ = some (.string (T i))
theorem IsW.c0 {w : World} {g : Nat} {s : ByteArray} {a : Nat} {f : Bool} (h : IsW w g s a f) : w.cell? ⟨g, 0, none⟩ = some (.string s) := (bk_cell h 0).trans rfl
theorem IsW.c1 {w : World} {g : Nat} {s : ByteArray} {a : Nat} {f : Bool} (h : IsW w g s a f) : w.cell? ⟨g, 1, none⟩ = some (.int .i64 a) := (bk_cell h 1).trans rfl
theorem IsW.c2 {w : World} {g : Nat} {s : ByteArray} {a : Nat} {f : Bool} (h : IsW w g s a f) : w.cell? ⟨g, 2, none⟩ = some (.bool f) := (bk_cell h 2).trans rfl
theorem IsW.below {w w1 : World} {g : Nat} {s : ByteArray} {a : Nat} {f : Bool} (h : IsW w g s a f) (hb : Below w.heap.size w w1) : IsW w1 g s a f := bk_below h hb
theorem bdrew {B : Nat} {a W : World} (h : Below B a W) : Below B a W.drew := ⟨h.os, h.tape, h.output, h.size, h.block⟩
theorem reads_long (s : ByteArray) (p : Option Addr) (L cap : Nat) (w : World) (h : 2000 < s.size ∨ 100 < L) :
    Calls Try.prog 6 #[.string s, .slice p L cap] w fun e w' => e = .returned (.bool true) ∧ Below w.heap.size w w' := by
  by_cases h1 : 2000 < s.size
  · have h2 : (2000 : Int) < s.size := by omega
    go_enter Try.func6, Try.ntmps6
    go_wp2_with fail
    refine (awake_any _).mono ?_; rintro e w3 ⟨rfl, b3⟩
    go_wp2
    go_returns
    exact ⟨by simp, b3⟩
  · have h2 : ¬ (2000 : Int) < s.size := by omega
    have h3 : (100 : Int) < L := by omega
    go_enter Try.func6, Try.ntmps6
    go_wp2_with fail
    refine (awake_any _).mono ?_; rintro e w3 ⟨rfl, b3⟩
    go_wp2
    go_returns
    exact ⟨by simp, b3⟩
set_option maxHeartbeats 4000000 in
theorem reads_some (s : ByteArray) (b o L cap : Nat) (D : Nat → Int) (T : Nat → ByteArray) (w : World) (hs : s.size ≤ 2000) (hL : L ≤ 100) (hops : Ops w b o L D T) :
    Calls Try.prog 6 #[.string s, .slice (some ⟨b, o, none⟩) L cap] w fun e w' => e = .returned (.bool true) ∧ Below w.heap.size w w' := by
  have h2 : ¬ (2000 : Int) < s.size := by omega
  have h3 : ¬ (100 : Int) < L := by omega
  go_enter Try.func6, Try.ntmps6
  go_wp2_with fail
  refine (new_any _ _).mono ?_; rintro e w1 ⟨q, rfl, hr, hq, hb1⟩
  have hq1 := bk_lt hr
  go_wp2_with fail
  have hw2 : IsW (w1.alloc (.cells #[.string s, .int .i64 0, .bool true] 38)) w1.heap.size s 0 true := bk_new w1 _
  have hr2 : IsR (w1.alloc (.cells #[.string s, .int .i64 0, .bool true] 38)) q (tl s 0) true := by
    have := bk_alloc hr (.cells #[.string s, .int .i64 0, .bool true] 38)
    simpa [IsR, tl] using this
  have hb2 := Below.alloc hb1 hb1.size (.cells #[.string s, .int .i64 0, .bool true] 38)
  go_loopw [7] (fun n W' => ∃ (k a : Nat) (f : Bool), k ≤ L ∧ a ≤ s.size ∧ n = .int .i64 k ∧ IsR W' q (tl s a) f ∧ IsW W' w1.heap.size s a f ∧ Below w.heap.size w W') (fun n _ => L - (intOf n).toNat)
  case atStart => exact ⟨0, 0, true, by omega, by omega, rfl, hr2, hw2, hb2⟩
  case round =>
    obtain ⟨k, a, f, hk, ha, rfl, y1, y2, y3⟩ := hrel
    clear hr2 hw2 hb2
    by_cases hkL : k < L
    · obtain ⟨o1, o2⟩ := hops k hkL
      have c1 := keepc y3 o1
      have c2 := keepc y3 o2
      have hyq := bk_lt y1
      have hyg := bk_lt y2
      have hq0 : w.heap.size ≤ q := hq
      have hg0 : w.heap.size ≤ w1.heap.size := hb1.size
      have hst : (tl s a).size ≤ 140737488351232 := by rw [tl_size s a ha]; omega
      go_wp2_with fail
      · refine (awake_any _).mono ?_; rintro e w3 ⟨rfl, b3⟩
        go_wp2
        go_returns
        exact ⟨by simp, bstep (Below.alloc y3 y3.size _) b3⟩
      · have hT : (T k).size ≤ 100 := by omega
        refine wp_abs (fun V => V.cell? ⟨wr.heap.size, 1, none⟩ = some (.string (T k)) ∧ IsR V q (tl s a) f ∧ IsW V w1.heap.size s a f ∧ Below w.heap.size w V) ⟨by simp [go_sem], bk_alloc y1 _, bk_alloc y2 _, Below.alloc y3 y3.size _⟩ ?_
        rintro V ⟨m1, v1, v2, v3⟩
        go_region_with (first
          | (go_at_call 15
             refine (text_any q (tl s a) f (T k) _ (by first | exact v1 | exact k4.blk v1 (by omega)) hst (by omega)).mono ?_
             rintro e w3 ⟨rfl, x1, k3⟩
             replace k3 : Kept q V w3 := ⟨k3.os, k3.tape, k3.output, k3.size, k3.block⟩
             have n3 : w3.cell? ⟨wr.heap.size, 1, none⟩ = some (.string (T k)) := k3.cell (by first | exact m1 | exact n4) (by omega))
          | (go_at_call 16
             refine (rtext_any w1.heap.size s a f (T k) _ (by first | exact v2 | exact k3.blk v2 (by omega)) ha (by omega) (by omega)).mono ?_
             rintro e w4 ⟨rfl, x2, k4⟩
             replace k4 : Kept w1.heap.size w3 w4 := ⟨k4.os, k4.tape, k4.output, k4.size, k4.block⟩
             have n4 : w4.cell? ⟨wr.heap.size, 1, none⟩ = some (.string (T k)) := k4.cell (by first | exact m1 | exact n3) (by omega)))
        all_goals
          have u1 : IsR w4 q (tl s (txA s a f (T k))) (txF (tl s a) f (T k)) := by
            rw [← txS_tl s a f (T k) ha]
            exact k4.blk x1 (by omega)
          have u2 : Below w.heap.size w w4 := k4.below (k3.below v3 hq0 v3.size) hg0 (k3.below v3 hq0 v3.size).size
          have g0 := x2.c0
          have g1 := x2.c1
          have g2 := x2.c2
          clear m1 v1 v2 v3 x1 k3 n3 k4 n4 c1 c2 y1 y2 y3
          generalize txF (tl s a) f (T k) = f' at *
          generalize hA : txA s a f (T k) = a' at *
          have ha' : a' ≤ s.size := by rw [← hA]; exact txA_le s a f (T k) ha
          go_wp2_with fail
          go_region_held3 (fun W' => W'.cell? ⟨w1.heap.size, 0, none⟩ = some (.string s) ∧ W'.cell? ⟨w1.heap.size, 1, none⟩ = some (.int .i64 (a' : Nat)) ∧ W'.cell? ⟨w1.heap.size, 2, none⟩ = some (.bool f') ∧ IsR W' q (tl s a') f' ∧ IsW W' w1.heap.size s a' f' ∧ Below w.heap.size w W')
            (first | assumption | ((repeat' apply And.intro) <;> first | assumption | (simp only [*]; done) | exact bdrew (by first | assumption | (simp only [*]; done)) | exact keepc hb (by assumption) | exact IsR.below (by assumption) hb | exact IsW.below (by assumption) hb | exact bstep (by first | assumption | exact bdrew (by assumption)) hb))
            (first
              | (go_at_call 14; refine (left_any q (tl s a') f' _ (by first | assumption | (simp only [*]; done))).mono ?_; rintro e w5 ⟨rfl, rfl⟩)
              | (go_at_call 18; refine (rleft_any s a' f' _ ha' (by omega)).mono ?_; rintro e w5 ⟨rfl, hb⟩)
              | (go_at_call 13; refine (fine_any q (tl s a') f' _ (by first | assumption | (simp only [*]; done))).mono ?_; rintro e w5 ⟨rfl, rfl⟩))
          go_wp2_with fail
          have hkw : IntKind.i64.wrap ((k : Int) + 1) = (k : Int) + 1 := IntWalk.i64_in _ (by omega)
          go_wp2
          refine ⟨⟨k + 1, a', f', by omega, ha', by go_num, by first | assumption | (simp only [*]; done), by first | assumption | (simp only [*]; done), by first | assumption | (simp only [*]; done)⟩, by simp [intOf]; omega⟩
      · refine calls_abs (fun V => IsR V q (tl s a) f ∧ IsW V w1.heap.size s a f ∧ Below w.heap.size w V) ⟨bk_alloc y1 _, bk_alloc y2 _, Below.alloc y3 y3.size _⟩ ?_
        rintro V ⟨v1, v2, v3⟩
        refine (num_any q (tl s a) f _ _ v1 hst).mono ?_
        rintro e w3 ⟨rfl, x1, k3⟩
        go_wp2_with fail
        refine (rnum_any w1.heap.size s a f _ _ (k3.blk v2 (by omega)) ha (by omega)).mono ?_
        rintro e w4 ⟨rfl, x2, k4⟩
        go_wp2_with fail
        all_goals
          have u1 : IsR w4 q (tl s (nmA s a f (-1))) (nOk (tl s a) f (-1)) := by
            rw [← nS_tl s a f _ ha]
            exact k4.blk x1 (by omega)
          have u2 : Below w.heap.size w w4 := k4.below (k3.below v3 hq0 v3.size) hg0 (k3.below v3 hq0 v3.size).size
          have g0 := x2.c0
          have g1 := x2.c1
          have g2 := x2.c2
          clear v1 v2 v3 x1 k3 k4 c1 c2 y1 y2 y3
          generalize nOk (tl s a) f (-1) = f' at *
          generalize hA : nmA s a f (-1) = a' at *
          have ha' : a' ≤ s.size := by rw [← hA]; exact nmA_le s a f _ ha
          go_wp2_with fail
          go_region_held3 (fun W' => W'.cell? ⟨w1.heap.size, 0, none⟩ = some (.string s) ∧ W'.cell? ⟨w1.heap.size, 1, none⟩ = some (.int .i64 (a' : Nat)) ∧ W'.cell? ⟨w1.heap.size, 2, none⟩ = some (.bool f') ∧ IsR W' q (tl s a') f' ∧ IsW W' w1.heap.size s a' f' ∧ Below w.heap.size w W')
            (first | assumption | ((repeat' apply And.intro) <;> first | assumption | (simp only [*]; done) | exact bdrew (by first | assumption | (simp only [*]; done)) | exact keepc hb (by assumption) | exact IsR.below (by assumption) hb | exact IsW.below (by assumption) hb | exact bstep (by first | assumption | exact bdrew (by assumption)) hb))
            (first
              | (go_at_call 14; refine (left_any q (tl s a') f' _ (by first | assumption | (simp only [*]; done))).mono ?_; rintro e w5 ⟨rfl, rfl⟩)
              | (go_at_call 18; refine (rleft_any s a' f' _ ha' (by omega)).mono ?_; rintro e w5 ⟨rfl, hb⟩)
              | (go_at_call 13; refine (fine_any q (tl s a') f' _ (by first | assumption | (simp only [*]; done))).mono ?_; rintro e w5 ⟨rfl, rfl⟩))
          go_wp2_with fail
          have hkw : IntKind.i64.wrap ((k : Int) + 1) = (k : Int) + 1 := IntWalk.i64_in _ (by omega)
          go_wp2
          refine ⟨⟨k + 1, a', f', by omega, ha', by go_num, by first | assumption | (simp only [*]; done), by first | assumption | (simp only [*]; done), by first | assumption | (simp only [*]; done)⟩, by simp [intOf]; omega⟩
      · refine calls_abs (fun V => IsR V q (tl s a) f ∧ IsW V w1.heap.size s a f ∧ Below w.heap.size w V) ⟨bk_alloc y1 _, bk_alloc y2 _, Below.alloc y3 y3.size _⟩ ?_
        rintro V ⟨v1, v2, v3⟩
        refine (num_any q (tl s a) f _ _ v1 hst).mono ?_
        rintro e w3 ⟨rfl, x1, k3⟩
        go_wp2_with fail
        refine (rnum_any w1.heap.size s a f _ _ (k3.blk v2 (by omega)) ha (by omega)).mono ?_
        rintro e w4 ⟨rfl, x2, k4⟩
        go_wp2_with fail
        all_goals
          have u1 : IsR w4 q (tl s (nmA s a f (wrap64 (D k - 2)))) (nOk (tl s a) f (wrap64 (D k - 2))) := by
            rw [← nS_tl s a f _ ha]
            exact k4.blk x1 (by omega)
          have u2 : Below w.heap.size w w4 := k4.below (k3.below v3 hq0 v3.size) hg0 (k3.below v3 hq0 v3.size).size
          have g0 := x2.c0
          have g1 := x2.c1
          have g2 := x2.c2
          clear v1 v2 v3 x1 k3 k4 c1 c2 y1 y2 y3
          generalize nOk (tl s a) f (wrap64 (D k - 2)) = f' at *
          generalize hA : nmA s a f (wrap64 (D k - 2)) = a' at *
          have ha' : a' ≤ s.size := by rw [← hA]; exact nmA_le s a f _ ha
          go_wp2_with fail
          go_region_held3 (fun W' => W'.cell? ⟨w1.heap.size, 0, none⟩ = some (.string s) ∧ W'.cell? ⟨w1.heap.size, 1, none⟩ = some (.int .i64 (a' : Nat)) ∧ W'.cell? ⟨w1.heap.size, 2, none⟩ = some (.bool f') ∧ IsR W' q (tl s a') f' ∧ IsW W' w1.heap.size s a' f' ∧ Below w.heap.size w W')
            (first | assumption | ((repeat' apply And.intro) <;> first | assumption | (simp only [*]; done) | exact bdrew (by first | assumption | (simp only [*]; done)) | exact keepc hb (by assumption) | exact IsR.below (by assumption) hb | exact IsW.below (by assumption) hb | exact bstep (by first | assumption | exact bdrew (by assumption)) hb))
            (first
              | (go_at_call 14; refine (left_any q (tl s a') f' _ (by first | assumption | (simp only [*]; done))).mono ?_; rintro e w5 ⟨rfl, rfl⟩)
              | (go_at_call 18; refine (rleft_any s a' f' _ ha' (by omega)).mono ?_; rintro e w5 ⟨rfl, hb⟩)
              | (go_at_call 13; refine (fine_any q (tl s a') f' _ (by first | assumption | (simp only [*]; done))).mono ?_; rintro e w5 ⟨rfl, rfl⟩))
          go_wp2_with fail
          have hkw : IntKind.i64.wrap ((k : Int) + 1) = (k : Int) + 1 := IntWalk.i64_in _ (by omega)
          go_wp2
          refine ⟨⟨k + 1, a', f', by omega, ha', by go_num, by first | assumption | (simp only [*]; done), by first | assumption | (simp only [*]; done), by first | assumption | (simp only [*]; done)⟩, by simp [intOf]; omega⟩
    · go_wp2_with fail
      refine (fine_nil _).mono ?_; rintro e w3 ⟨rfl, rfl⟩
      go_wp2_with fail
      refine (left_nil _).mono ?_; rintro e w3 ⟨rfl, rfl⟩
      go_wp2_with fail
      refine (num_nil _ _).mono ?_; rintro e w3 ⟨rfl, rfl⟩
      go_wp2_with fail
      refine (text_nil _ _).mono ?_; rintro e w3 ⟨rfl, rfl⟩
      go_wp2_with fail
      refine (awake_any _).mono ?_; rintro e w3 ⟨rfl, hb⟩
      go_wp2
      go_returns
      exact ⟨by simp, bstep y3 hb⟩
set_option maxHeartbeats 4000000 in
theorem reads_nil (s : ByteArray) (p : Option Addr) (cap : Nat) (w : World) (hs : s.size ≤ 2000) :
    Calls Try.prog 6 #[.string s, .slice p 0 cap] w fun e w' => e = .returned (.bool true) ∧ Below w.heap.size w w' := by
  have h2 : ¬ (2000 : Int) < s.size := by omega
  go_enter Try.func6, Try.ntmps6
  go_wp2_with fail
  refine (new_any _ _).mono ?_; rintro e w1 ⟨q, rfl, hr, hq, hb1⟩
  have hq1 := bk_lt hr
  go_wp2_with fail
  have hw2 : IsW (w1.alloc (.cells #[.string s, .int .i64 0, .bool true] 38)) w1.heap.size s 0 true := bk_new w1 _
  have hr2 : IsR (w1.alloc (.cells #[.string s, .int .i64 0, .bool true] 38)) q (tl s 0) true := by
    have := bk_alloc hr (.cells #[.string s, .int .i64 0, .bool true] 38)
    simpa [IsR, tl] using this
  have hb2 := Below.alloc hb1 hb1.size (.cells #[.string s, .int .i64 0, .bool true] 38)
  go_loopw [7] (fun n W' => ∃ (k a : Nat) (f : Bool), k ≤ 0 ∧ a ≤ s.size ∧ n = .int .i64 k ∧ IsR W' q (tl s a) f ∧ IsW W' w1.heap.size s a f ∧ Below w.heap.size w W') (fun n _ => 0 - (intOf n).toNat)
  case atStart => exact ⟨0, 0, true, by omega, by omega, rfl, hr2, hw2, hb2⟩
  case round =>
    obtain ⟨k, a, f, hk, ha, rfl, y1, y2, y3⟩ := hrel
    clear hr2 hw2 hb2
    have hk0 : k = 0 := by omega
    subst hk0
    go_wp2_with fail
    refine (fine_nil _).mono ?_; rintro e w3 ⟨rfl, rfl⟩
    go_wp2_with fail
    refine (left_nil _).mono ?_; rintro e w3 ⟨rfl, rfl⟩
    go_wp2_with fail
    refine (num_nil _ _).mono ?_; rintro e w3 ⟨rfl, rfl⟩
    go_wp2_with fail
    refine (text_nil _ _).mono ?_; rintro e w3 ⟨rfl, rfl⟩
    go_wp2_with fail
    refine (awake_any _).mono ?_; rintro e w3 ⟨rfl, hb⟩
    go_wp2
    go_returns
    exact ⟨by simp, bstep y3 hb⟩
theorem OctetReads_any (s : ByteArray) (p : Option Addr) (L cap : Nat) (w : World) (h : L = 0 ∨ ∃ b o D T, p = some ⟨b, o, none⟩ ∧ Ops w b o L D T) :
    Calls Try.prog 6 #[.string s, .slice p L cap] w fun e w' => e = .returned (.bool true) ∧ Below w.heap.size w w' := by
  by_cases hb : 2000 < s.size ∨ 100 < L
  · exact reads_long s p L cap w hb
  · rcases h with rfl | ⟨b, o, D, T, rfl, ho⟩
    · exact reads_nil s p cap w (by omega)
    · exact reads_some s b o L cap D T w (by omega) (by omega) ho
end Go.Proofs.Ytjgelbcibjaehaa
