/- Helper text of this seat (New): contracts of functions of the given program and of its references, each told by its theorem. -/
import Derived.Test.YtjgelbcibjaehaaPut
namespace Go.Proofs.Ytjgelbcibjaehaa
open Go.RowKit
set_option linter.unusedVariables false
set_option linter.unusedSimpArgs false
theorem new_any (s : ByteArray) (w : World) :
    Calls Try.prog 11 #[.string s] w fun e w' => ∃ g : Nat, e = .returned (.pointer (some ⟨g, 0, none⟩)) ∧ IsR w' g s true ∧ w.heap.size ≤ g ∧ Below w.heap.size w w' := by
  refine (POctetReads.octet_New.calls s s true w w (Below.refl _ _) rfl).mono ?_
  rintro e w' ⟨g, rfl, h, hb, _⟩
  exact ⟨g, rfl, h.1, h.2, hb⟩
/-- is the next number there? -/
def nOk (s : ByteArray) (f : Bool) (n : Int) : Bool := f && decide (1 ≤ n) && decide (n ≤ 4) && decide (n ≤ s.size)
def nV (s : ByteArray) (f : Bool) (n : Int) : Int := if nOk s f n then be (s.data.toList.take n.toNat) else 0
def nS (s : ByteArray) (f : Bool) (n : Int) : ByteArray := if nOk s f n then s.extract n.toNat s.size else s
theorem num_any (g : Nat) (s : ByteArray) (f : Bool) (n : Int) (w : World) (h : IsR w g s f) (hs : s.size ≤ 140737488351232) :
    Calls Try.prog 12 #[.pointer (some ⟨g, 0, none⟩), .int .i64 n] w fun e w' => e = .returned (.int .u32 (nV s f n)) ∧ IsR w' g (nS s f n) (nOk s f n) ∧ Kept g w w' := by
  cases f
  · refine (num_not g s n w h).mono ?_
    rintro e w' ⟨rfl, rfl⟩
    exact ⟨by simp [nV, nOk], by simpa [nS, nOk] using h, Kept.refl g w'⟩
  · by_cases hn : 1 ≤ n ∧ n ≤ 4 ∧ n ≤ s.size
    · obtain ⟨k, rfl⟩ : ∃ k : Nat, n = k := ⟨n.toNat, by omega⟩
      have hk : nOk s true k = true := by simp [nOk]; omega
      refine (num_ok g s k w h hs (by omega) (by omega) (by omega)).mono ?_
      rintro e w' ⟨rfl, h2, h3⟩
      exact ⟨by simp [nV, hk], by simpa [nS, hk] using h2, h3⟩
    · have hk : nOk s true n = false := by simp [nOk]; omega
      refine (num_bad g s n w h hs (by omega)).mono ?_
      rintro e w' ⟨rfl, h2, h3⟩
      exact ⟨by simp [nV, hk], by simpa [nS, hk] using h2, h3⟩
theorem IsR.below {w w1 : World} {g : Nat} {s : ByteArray} {f : Bool} (h : IsR w g s f) (hb : Below w.heap.size w w1) : IsR w1 g s f := bk_below h hb
theorem put_a (w : World) : Calls Try.prog 8 #[.int .u32 513, .int .i64 2] w fun e W' => e = .returned (.tuple #[.string ⟨#[2, 1]⟩, .int .i64 0]) ∧ Below w.heap.size w W' := by
  have h := put_any 513 2 (by omega) (by omega) w
  have e1 : pS 513 2 = ⟨#[2, 1]⟩ := by decide
  have e2 : pE 513 2 = 0 := by decide
  rwa [e1, e2] at h
theorem put_b (w : World) : Calls Try.prog 8 #[.int .u32 256, .int .i64 1] w fun e W' => e = .returned (.tuple #[.string ⟨#[]⟩, .int .i64 2]) ∧ Below w.heap.size w W' := by
  have h := put_any 256 1 (by omega) (by omega) w
  have e1 : pS 256 1 = ⟨#[]⟩ := by decide
  have e2 : pE 256 1 = 2 := by decide
  rwa [e1, e2] at h
theorem num_a (g : Nat) (w : World) (h : IsR w g ⟨#[2, 1, 7]⟩ true) :
    Calls Try.prog 12 #[.pointer (some ⟨g, 0, none⟩), .int .i64 2] w fun e w' => e = .returned (.int .u32 513) ∧ IsR w' g ⟨#[7]⟩ true ∧ Kept g w w' := by
  have k := num_any g _ _ 2 w h (by decide)
  have e1 : nV ⟨#[2, 1, 7]⟩ true 2 = 513 := by decide
  have e2 : nS ⟨#[2, 1, 7]⟩ true 2 = ⟨#[7]⟩ := by decide
  have e3 : nOk ⟨#[2, 1, 7]⟩ true 2 = true := by decide
  rwa [e1, e2, e3] at k
theorem num_b (g : Nat) (w : World) (h : IsR w g ⟨#[7]⟩ true) :
    Calls Try.prog 12 #[.pointer (some ⟨g, 0, none⟩), .int .i64 2] w fun e w' => e = .returned (.int .u32 0) ∧ IsR w' g ⟨#[7]⟩ false ∧ Kept g w w' := by
  have k := num_any g _ _ 2 w h (by decide)
  have e1 : nV ⟨#[7]⟩ true 2 = 0 := by decide
  have e2 : nS ⟨#[7]⟩ true 2 = ⟨#[7]⟩ := by decide
  have e3 : nOk ⟨#[7]⟩ true 2 = false := by decide
  rwa [e1, e2, e3] at k
theorem left_a (g : Nat) (w : World) (h : IsR w g ⟨#[7]⟩ true) :
    Calls Try.prog 14 #[.pointer (some ⟨g, 0, none⟩)] w fun e w' => e = .returned (.int .i64 1) ∧ w' = w := left_any g _ _ w h
set_option maxHeartbeats 1000000 in
theorem awake_any (w : World) :
    Calls Try.prog 10 #[] w fun e w' => e = .returned (.bool true) ∧ Below w.heap.size w w' := by
  go_enter Try.func10, Try.ntmps10
  go_wp2_with fail
  refine (put_a _).mono ?_; rintro e w1 ⟨rfl, b1⟩
  go_wp2_with fail
  refine (put_b _).mono ?_; rintro e w2 ⟨rfl, b2⟩
  go_wp2_with fail
  refine (new_any _ _).mono ?_; rintro e w3 ⟨g, rfl, hr3, hg, b3⟩
  go_wp2_with fail
  refine (num_a g _ hr3).mono ?_; rintro e w4 ⟨rfl, hr4, k4⟩
  have hb4 : Below w.heap.size w w4 := k4.below (bstep (bstep b1 b2) b3) (Nat.le_trans (bstep b1 b2).size hg) (bstep (bstep b1 b2) b3).size
  have hg0 : w.heap.size ≤ g := Nat.le_trans (bstep b1 b2).size hg
  clear k4 hr3 hg b1 b2 b3
  go_wp2_with fail
  refine (left_a g _ hr4).mono ?_; rintro e w5 ⟨rfl, rfl⟩
  go_wp2_with fail
  refine (num_b g _ hr4).mono ?_; rintro e w6 ⟨rfl, hr6, k6⟩
  have hb6 : Below w.heap.size w w6 := k6.below hb4 hg0 hb4.size
  clear k6 hb4 hr4
  go_wp2_with fail
  refine (fine_any g _ _ _ hr6).mono ?_; rintro e w7 ⟨rfl, rfl⟩
  go_wp2
  go_returns
  exact ⟨by simp, hb6⟩
end Go.Proofs.Ytjgelbcibjaehaa
