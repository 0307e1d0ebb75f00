/- Helper text of this seat (Ck): contracts of functions of the given program and of its references, each told by its theorem. -/
import Derived.Test.YtldfgeipgjmjcaaBase
namespace Go.Proofs.Ytldfgeipgjmjcaa
open Go.RowKit
set_option linter.unusedVariables false
set_option linter.unusedSimpArgs false
/-- may an entry be? -/
def okE (a b c : Bool) (n : Int) : Bool := decide (0 ≤ n) && decide (n < 1024) && !(c && b) && (a || (!b && !c && n == 0))
def chk (a b c : Bool) (n : Int) : Int := if okE a b c n then 0 else 2
def fin (a b c : Bool) (n k : Int) : Bool := okE a b c n && a && decide (1 ≤ k)


set_option maxHeartbeats 1000000 in
theorem check_any (a b c : Bool) (n : Int) (w : World) :
    Calls Try.prog 17 #[.agg #[.bool a, .bool b, .bool c, .int .i64 n]] w fun e w' => e = .returned (.int .i64 (chk a b c n)) ∧ Below w.heap.size w w' := by
  by_cases h1 : n < 0
  · have hk : chk a b c n = 2 := by simp [chk, okE]; omega
    go_enter Try.func17, Try.ntmps17
    go_wp2
    go_returns
    exact ⟨by simp [hk], by go_grown⟩
  by_cases h2 : 1024 ≤ n
  · have hk : chk a b c n = 2 := by simp [chk, okE]; omega
    go_enter Try.func17, Try.ntmps17
    go_wp2
    go_returns
    exact ⟨by simp [hk], by go_grown⟩
  have h4 : decide (0 ≤ n) = true := by simp; omega
  have h5 : decide (n < 1024) = true := by simp; omega
  by_cases h3 : n = 0
  · subst h3
    cases a <;> cases b <;> cases c
    all_goals
      go_enter Try.func17, Try.ntmps17
      go_wp2
      go_returns
      exact ⟨by simp [chk, okE], by go_grown⟩
  · have h6 : (n == 0) = false := by simp [h3]
    cases a <;> cases b <;> cases c
    all_goals
      go_enter Try.func17, Try.ntmps17
      go_wp2
      go_returns
      exact ⟨by simp [chk, okE, h4, h5, h6], by go_grown⟩

set_option maxHeartbeats 1000000 in
theorem rcheck_any (a b c : Bool) (n : Int) (w : World) :
    Calls Try.prog 18 #[.agg #[.bool a, .bool b, .bool c, .int .i64 n]] w fun e w' => e = .returned (.int .i64 (chk a b c n)) ∧ Below w.heap.size w w' := by
  by_cases h1 : n < 0
  · have hk : chk a b c n = 2 := by simp [chk, okE]; omega
    go_enter Try.func18, Try.ntmps18
    go_wp2
    go_returns
    exact ⟨by simp [hk], by go_grown⟩
  by_cases h2 : 1024 ≤ n
  · have hk : chk a b c n = 2 := by simp [chk, okE]; omega
    go_enter Try.func18, Try.ntmps18
    go_wp2
    go_returns
    exact ⟨by simp [hk], by go_grown⟩
  have h4 : decide (0 ≤ n) = true := by simp; omega
  have h5 : decide (n < 1024) = true := by simp; omega
  by_cases h3 : n = 0
  · subst h3
    cases a <;> cases b <;> cases c
    all_goals
      go_enter Try.func18, Try.ntmps18
      go_wp2
      go_returns
      exact ⟨by simp [chk, okE], by go_grown⟩
  · have h6 : (n == 0) = false := by simp [h3]
    cases a <;> cases b <;> cases c
    all_goals
      go_enter Try.func18, Try.ntmps18
      go_wp2
      go_returns
      exact ⟨by simp [chk, okE, h4, h5, h6], by go_grown⟩

set_option maxHeartbeats 1000000 in
theorem fine_any (a b c : Bool) (n k : Int) (w : World) :
    Calls Try.prog 15 #[.agg #[.bool a, .bool b, .bool c, .int .i64 n], .int .i64 k] w fun e w' => e = .returned (.bool (fin a b c n k)) ∧ Below w.heap.size w w' := by
  have hf : fin a b c n k = (decide (chk a b c n = 0) && a && decide (1 ≤ k)) := by
    unfold fin chk
    cases okE a b c n <;> simp
  by_cases hz : a = false ∧ b = false ∧ c = false ∧ n = 0
  · obtain ⟨rfl, rfl, rfl, rfl⟩ := hz
    go_enter Try.func15, Try.ntmps15
    go_wp2
    go_returns
    exact ⟨by simp [fin], by go_grown⟩
  go_enter Try.func15, Try.ntmps15
  go_wp2_with (go_at_call 17; refine (check_any _ _ _ _ _).mono ?_; rintro e w1 ⟨rfl, hb⟩; have hB : Below w.heap.size w w1 := bstep (by go_grown) hb; have hz := hb.size; (try simp only [World.size_alloc, World.size_setCell, World.size_drew] at hz); (try have hz0 : w.heap.size < w1.heap.size := by omega); (try have hz1 : w.heap.size + 1 < w1.heap.size := by omega); (try have hz2 : w.heap.size + 1 + 1 < w1.heap.size := by omega); (try have hz3 : w.heap.size + 1 + 1 + 1 < w1.heap.size := by omega); obtain ⟨hc, hfr⟩ := bcell hb; clear hb)
  all_goals first | (exfalso; simp_all; done) | skip
  all_goals
    go_returns
    refine ⟨?_, by go_grown⟩
    simp_all
set_option maxHeartbeats 1000000 in
theorem rfine_any (a b c : Bool) (n k : Int) (w : World) :
    Calls Try.prog 16 #[.agg #[.bool a, .bool b, .bool c, .int .i64 n], .int .i64 k] w fun e w' => e = .returned (.bool (fin a b c n k)) ∧ Below w.heap.size w w' := by
  have hf : fin a b c n k = (decide (chk a b c n = 0) && a && decide (1 ≤ k)) := by
    unfold fin chk
    cases okE a b c n <;> simp
  go_enter Try.func16, Try.ntmps16
  go_wp2_with (go_at_call 18; refine (rcheck_any _ _ _ _ _).mono ?_; rintro e w1 ⟨rfl, hb⟩; have hB : Below w.heap.size w w1 := bstep (by go_grown) hb; have hz := hb.size; (try simp only [World.size_alloc, World.size_setCell, World.size_drew] at hz); (try have hz0 : w.heap.size < w1.heap.size := by omega); (try have hz1 : w.heap.size + 1 < w1.heap.size := by omega); (try have hz2 : w.heap.size + 1 + 1 < w1.heap.size := by omega); (try have hz3 : w.heap.size + 1 + 1 + 1 < w1.heap.size := by omega); obtain ⟨hc, hfr⟩ := bcell hb; clear hb)
  all_goals
    go_returns
    refine ⟨?_, by go_grown⟩
    simp_all

end Go.Proofs.Ytldfgeipgjmjcaa
