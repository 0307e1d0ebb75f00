/- Helper text of this seat (LCut): contracts of functions of the given program and of its references, each told by its theorem. -/
import Derived.Test.YtjgelbcibjaehaaCut
namespace Go.Proofs.Ytjgelbcibjaehaa
open Go.RowKit
set_option linter.unusedVariables false
set_option linter.unusedSimpArgs false
theorem cut_bad (n v c : Int) (t : ByteArray) (h0 : 0 ≤ n) (h1 : n < 4294967296) (w : World) (ht : t.size ≤ 140737488351232) (hb : pE n v ≠ 0 ∨ 1000 < t.size) :
    Calls Try.prog 7 #[.int .u32 n, .int .i64 v, .int .i64 c, .string t] w fun e w' => e = .returned (.bool true) ∧ Below w.heap.size w w' := by
  by_cases k0 : pE n v = 0
  · have hb2 : (1000 : Int) < t.size := by omega
    go_enter Try.func7, Try.ntmps7
    go_wp2_with fail
    refine (put_any n v h0 h1 _).mono ?_; rintro e w1 ⟨rfl, b1⟩
    go_wp2_with fail
    refine (awake_any _).mono ?_; rintro e w3 ⟨rfl, b3⟩
    go_wp2
    go_returns
    exact ⟨by simp, bstep b1 b3⟩
  · go_enter Try.func7, Try.ntmps7
    go_wp2_with fail
    refine (put_any n v h0 h1 _).mono ?_; rintro e w1 ⟨rfl, b1⟩
    go_wp2_with fail
    refine (awake_any _).mono ?_; rintro e w3 ⟨rfl, b3⟩
    go_wp2
    go_returns
    exact ⟨by simp, bstep b1 b3⟩
set_option maxHeartbeats 2000000 in
theorem cut_good (n v c : Int) (t : ByteArray) (h0 : 0 ≤ n) (h1 : n < 4294967296) (w : World) (ht : t.size ≤ 1000) (he : pE n v = 0)
    (k : Nat) (hk : (k : Int) < v) (hc : c.tmod v = k ∨ (c.tmod v < 0 ∧ wrap64 (c.tmod v + v) = k)) :
    Calls Try.prog 7 #[.int .u32 n, .int .i64 v, .int .i64 c, .string t] w fun e w' => e = .returned (.bool true) ∧ Below w.heap.size w w' := by
  obtain ⟨g1, g2, g3⟩ := good he
  have hz := pS_size he
  have hzi : ((pS n v).size : Int) = v := by omega
  have hsz : (pS n v ++ t).size = (pS n v).size + t.size := ByteArray.size_append
  have hfull := fun (g : Nat) (w : World) (h : IsR w g (pS n v ++ t) true) => num_full g n v t w h0 he h (by omega)
  have hput := put_any n v h0 h1
  have hxs : ((pS n v).extract 0 k).size = k := by rw [ByteArray.size_extract]; omega
  rw [he] at hput
  generalize pS n v = S at hfull hput hxs hz hzi hsz
  clear he g3 hz h1
  have hkS : (k : Int) ≤ S.size := by omega
  have hv0 : v ≠ 0 := by omega
  have ht2 : ¬ (1000 : Int) < t.size := by omega
  have hcat : ((S.size : Int) + t.size) ≤ 9223372036854775807 := by omega
  subst hzi
  have hshort := fun (g : Nat) (w : World) (h : IsR w g (S.extract 0 k) true) => num_short g S.size (S.extract 0 k) w h (by omega) (by omega)
  rcases hc with hc | ⟨hc, hk2⟩
  all_goals
    go_enter Try.func7, Try.ntmps7
    go_wp2_with fail
    refine (hput _).mono ?_; rintro e w1 ⟨rfl, b1⟩
    go_wp2_with fail
    refine (new_any _ _).mono ?_; rintro e w2 ⟨g, rfl, r2, hg, b2⟩
    go_wp2_with fail
    refine (hshort g _ r2).mono ?_; rintro e w3 ⟨rfl, r3, k3⟩
    have b3 : Below w.heap.size w w3 := k3.below (bstep b1 b2) (Nat.le_trans b1.size hg) (bstep b1 b2).size
    go_wp2_with fail
    refine (fine_any g _ _ _ r3).mono ?_; rintro e w4 ⟨rfl, rfl⟩
    go_wp2_with fail
    refine (left_none g _ _ r3).mono ?_; rintro e w5 ⟨rfl, rfl⟩
    go_wp2_with fail
    refine (new_any _ _).mono ?_; rintro e w6 ⟨q, rfl, r6, hq, b6⟩
    go_wp2_with fail
    refine (hfull q _ r6).mono ?_; rintro e w7 ⟨rfl, r7, k7⟩
    have b7 : Below w.heap.size w w7 := k7.below (bstep b3 b6) (Nat.le_trans b3.size hq) (bstep b3 b6).size
    go_wp2_with fail
    refine (fine_any q _ _ _ r7).mono ?_; rintro e w8 ⟨rfl, rfl⟩
    go_wp2_with fail
    refine (left_all q _ _ r7).mono ?_; rintro e w9 ⟨rfl, rfl⟩
    go_wp2_with fail
    refine (text_full q _ _ r7 (by omega)).mono ?_; rintro e w10 ⟨rfl, r10, k10⟩
    have b10 : Below w.heap.size w w10 := k10.below b7 (Nat.le_trans b3.size hq) b7.size
    go_wp2_with fail
    refine (left_end q _ _ r10).mono ?_; rintro e w11 ⟨rfl, rfl⟩
    go_wp2_with fail
    refine (awake_any _).mono ?_; rintro e w12 ⟨rfl, b12⟩
    go_wp2
    go_returns
    exact ⟨by simp, bstep b10 b12⟩
theorem OctetCut_any (n v c : Int) (t : ByteArray) (h0 : 0 ≤ n) (h1 : n < 4294967296) (ht : t.size ≤ 140737488351232) (w : World) :
    Calls Try.prog 7 #[.int .u32 n, .int .i64 v, .int .i64 c, .string t] w fun e w' => e = .returned (.bool true) ∧ Below w.heap.size w w' := by
  by_cases he : pE n v = 0
  · by_cases hl : 1000 < t.size
    · exact cut_bad n v c t h0 h1 w ht (.inr hl)
    · obtain ⟨g1, g2, g3⟩ := good he
      have m1 : -v < c.tmod v := by
        have p1 : (-c).tmod v = -(c.tmod v) := Int.neg_tmod ..
        have p2 : (-c).tmod v < v := Int.tmod_lt_of_pos _ (by omega)
        omega
      have m2 : c.tmod v < v := Int.tmod_lt_of_pos c (by omega)
      by_cases hc : c.tmod v < 0
      · refine cut_good n v c t h0 h1 w (by omega) he (c.tmod v + v).toNat (by omega) (.inr ⟨hc, ?_⟩)
        unfold wrap64
        omega
      · exact cut_good n v c t h0 h1 w (by omega) he (c.tmod v).toNat (by omega) (.inl (by omega))
  · exact cut_bad n v c t h0 h1 w ht (.inl he)
end Go.Proofs.Ytjgelbcibjaehaa
