/- Helper text of this seat (Fns): contracts of functions of the given program and of its references, each told by its theorem. -/
import Derived.Test.YtldfgeipgjmjcaaCk
namespace Go.Proofs.Ytldfgeipgjmjcaa
open Go.RowKit
set_option linter.unusedVariables false
set_option linter.unusedSimpArgs false
theorem fin_a {a b c : Bool} {n k : Int} (h : fin a b c n k = true) : a = true ∧ (c && b) = false ∧ 1 ≤ k := by
  simp [fin, okE] at h
  obtain ⟨⟨⟨⟨_, h2⟩, _⟩, h3⟩, h4⟩ := h
  refine ⟨h3, ?_, h4⟩
  cases b <;> cases c <;> simp_all
set_option maxHeartbeats 1000000 in
theorem fork_yes (a b c : Bool) (n : Int) (w : World) (h : fin a b c n 1 = true) :
    Calls Try.prog 8 #[.agg #[.bool a, .bool b, .bool c, .int .i64 n]] w fun e w' => e = .returned (.tuple #[.agg #[.bool true, .bool false, .bool (c || b), .int .i64 n], .int .i64 0]) ∧ Below w.heap.size w w' := by
  obtain ⟨rfl, hbc, _⟩ := fin_a h
  go_enter Try.func8, Try.ntmps8
  go_wp2_with (go_at_call 15; refine (fine_any _ _ _ _ _ _).mono ?_; rintro e w1 ⟨rfl, hb⟩; have hB : Below w.heap.size w w1 := bstep (by go_grown) hb; have hz := hb.size; (try simp only [World.size_alloc, World.size_setCell, World.size_drew] at hz); (try have hz0 : w.heap.size < w1.heap.size := by omega); (try have hz1 : w.heap.size + 1 < w1.heap.size := by omega); (try have hz2 : w.heap.size + 1 + 1 < w1.heap.size := by omega); (try have hz3 : w.heap.size + 1 + 1 + 1 < w1.heap.size := by omega); obtain ⟨hc, hfr⟩ := bcell hb; clear hb)
  all_goals
    ((try simp only [Exit.inBlock, Exit.then]); refine bodyPost_ret (by simp [results, Try.results8, go_sem, *]; try rfl) rfl ?_)
    exact ⟨by simp_all, by go_grown⟩
set_option maxHeartbeats 1000000 in
theorem fork_no (a b c : Bool) (n : Int) (w : World) (h : fin a b c n 1 = false) :
    Calls Try.prog 8 #[.agg #[.bool a, .bool b, .bool c, .int .i64 n]] w fun e w' => e = .returned (.tuple #[.agg #[.bool false, .bool false, .bool false, .int .i64 0], .int .i64 2]) ∧ Below w.heap.size w w' := by
  go_enter Try.func8, Try.ntmps8
  go_wp2_with (go_at_call 15; refine (fine_any _ _ _ _ _ _).mono ?_; rintro e w1 ⟨rfl, hb⟩; have hB : Below w.heap.size w w1 := bstep (by go_grown) hb; have hz := hb.size; (try simp only [World.size_alloc, World.size_setCell, World.size_drew] at hz); (try have hz0 : w.heap.size < w1.heap.size := by omega); (try have hz1 : w.heap.size + 1 < w1.heap.size := by omega); (try have hz2 : w.heap.size + 1 + 1 < w1.heap.size := by omega); (try have hz3 : w.heap.size + 1 + 1 + 1 < w1.heap.size := by omega); obtain ⟨hc, hfr⟩ := bcell hb; clear hb)
  all_goals
    ((try simp only [Exit.inBlock, Exit.then]); refine bodyPost_ret (by simp [results, Try.results8, go_sem, *]; try rfl) rfl ?_)
    exact ⟨by simp_all, by go_grown⟩
set_option maxHeartbeats 1000000 in
theorem rfork_yes (a b c : Bool) (n : Int) (w : World) (h : fin a b c n 1 = true) :
    Calls Try.prog 9 #[.agg #[.bool a, .bool b, .bool c, .int .i64 n]] w fun e w' => e = .returned (.tuple #[.agg #[.bool true, .bool false, .bool (c || b), .int .i64 n], .int .i64 0]) ∧ Below w.heap.size w w' := by
  obtain ⟨rfl, hbc, _⟩ := fin_a h
  cases b
  all_goals
    go_enter Try.func9, Try.ntmps9
    go_wp2_with (go_at_call 16; refine (rfine_any _ _ _ _ _ _).mono ?_; rintro e w1 ⟨rfl, hb⟩; have hB : Below w.heap.size w w1 := bstep (by go_grown) hb; have hz := hb.size; (try simp only [World.size_alloc, World.size_setCell, World.size_drew] at hz); (try have hz0 : w.heap.size < w1.heap.size := by omega); (try have hz1 : w.heap.size + 1 < w1.heap.size := by omega); (try have hz2 : w.heap.size + 1 + 1 < w1.heap.size := by omega); (try have hz3 : w.heap.size + 1 + 1 + 1 < w1.heap.size := by omega); obtain ⟨hc, hfr⟩ := bcell hb; clear hb)
  · ((try simp only [Exit.inBlock, Exit.then]); refine bodyPost_ret (by simp [results, Try.results9, go_sem, *]; try rfl) rfl ?_)
    exact ⟨by simp_all, by go_grown⟩
  · ((try simp only [Exit.inBlock, Exit.then]); refine bodyPost_ret (by simp [results, Try.results9, go_sem, *]; try rfl) rfl ?_)
    exact ⟨by simp_all, by go_grown⟩
set_option maxHeartbeats 1000000 in
theorem rfork_no (a b c : Bool) (n : Int) (w : World) (h : fin a b c n 1 = false) :
    Calls Try.prog 9 #[.agg #[.bool a, .bool b, .bool c, .int .i64 n]] w fun e w' => e = .returned (.tuple #[.agg #[.bool false, .bool false, .bool false, .int .i64 0], .int .i64 2]) ∧ Below w.heap.size w w' := by
  go_enter Try.func9, Try.ntmps9
  go_wp2_with (go_at_call 16; refine (rfine_any _ _ _ _ _ _).mono ?_; rintro e w1 ⟨rfl, hb⟩; have hB : Below w.heap.size w w1 := bstep (by go_grown) hb; have hz := hb.size; (try simp only [World.size_alloc, World.size_setCell, World.size_drew] at hz); (try have hz0 : w.heap.size < w1.heap.size := by omega); (try have hz1 : w.heap.size + 1 < w1.heap.size := by omega); (try have hz2 : w.heap.size + 1 + 1 < w1.heap.size := by omega); (try have hz3 : w.heap.size + 1 + 1 + 1 < w1.heap.size := by omega); obtain ⟨hc, hfr⟩ := bcell hb; clear hb)
  all_goals
    ((try simp only [Exit.inBlock, Exit.then]); refine bodyPost_ret (by simp [results, Try.results9, go_sem, *]; try rfl) rfl ?_)
    exact ⟨by simp_all, by go_grown⟩
def wr (a b c : Bool) (n k : Int) : Int := if fin a b c n k then if b then 1 else if c then if k = 1 then 2 else 3 else 0 else 0
def wrE (a b c : Bool) (n k : Int) : Int := if fin a b c n k then if b then 0 else if c then 0 else 8 else 2
set_option maxHeartbeats 1000000 in
theorem write_any (a b c : Bool) (n k : Int) (w : World) :
    Calls Try.prog 11 #[.agg #[.bool a, .bool b, .bool c, .int .i64 n], .int .i64 k] w fun e w' => e = .returned (.tuple #[.int .i64 (wr a b c n k), .int .i64 (wrE a b c n k)]) ∧ Below w.heap.size w w' := by
  go_enter Try.func11, Try.ntmps11
  go_wp2_with (go_at_call 15; refine (fine_any _ _ _ _ _ _).mono ?_; rintro e w1 ⟨rfl, hb⟩; have hB : Below w.heap.size w w1 := bstep (by go_grown) hb; have hz := hb.size; (try simp only [World.size_alloc, World.size_setCell, World.size_drew] at hz); (try have hz0 : w.heap.size < w1.heap.size := by omega); (try have hz1 : w.heap.size + 1 < w1.heap.size := by omega); (try have hz2 : w.heap.size + 1 + 1 < w1.heap.size := by omega); (try have hz3 : w.heap.size + 1 + 1 + 1 < w1.heap.size := by omega); obtain ⟨hc, hfr⟩ := bcell hb; clear hb)
  all_goals
    go_returns
    exact ⟨by simp_all [wr, wrE], by go_grown⟩
set_option maxHeartbeats 1000000 in
theorem rwrite_any (a b c : Bool) (n k : Int) (w : World) :
    Calls Try.prog 12 #[.agg #[.bool a, .bool b, .bool c, .int .i64 n], .int .i64 k] w fun e w' => e = .returned (.tuple #[.int .i64 (wr a b c n k), .int .i64 (wrE a b c n k)]) ∧ Below w.heap.size w w' := by
  go_enter Try.func12, Try.ntmps12
  go_wp2_with (go_at_call 16; refine (rfine_any _ _ _ _ _ _).mono ?_; rintro e w1 ⟨rfl, hb⟩; have hB : Below w.heap.size w w1 := bstep (by go_grown) hb; have hz := hb.size; (try simp only [World.size_alloc, World.size_setCell, World.size_drew] at hz); (try have hz0 : w.heap.size < w1.heap.size := by omega); (try have hz1 : w.heap.size + 1 < w1.heap.size := by omega); (try have hz2 : w.heap.size + 1 + 1 < w1.heap.size := by omega); (try have hz3 : w.heap.size + 1 + 1 + 1 < w1.heap.size := by omega); obtain ⟨hc, hfr⟩ := bcell hb; clear hb)
  all_goals
    go_returns
    exact ⟨by simp_all [wr, wrE], by go_grown⟩
set_option maxHeartbeats 1000000 in
theorem set_yes (a b c : Bool) (n k : Int) (x : Bool) (w : World) (h : fin a b c n k = true) :
    Calls Try.prog 13 #[.agg #[.bool a, .bool b, .bool c, .int .i64 n], .int .i64 k, .bool x] w fun e w' => e = .returned (.tuple #[.agg #[.bool true, .bool (x && k == 1), .bool (x && decide (1 < k)), .int .i64 n], .int .i64 0]) ∧ Below w.heap.size w w' := by
  cases x
  all_goals
    go_enter Try.func13, Try.ntmps13
    go_wp2_with (go_at_call 15; refine (fine_any _ _ _ _ _ _).mono ?_; rintro e w1 ⟨rfl, hb⟩; have hB : Below w.heap.size w w1 := bstep (by go_grown) hb; have hz := hb.size; (try simp only [World.size_alloc, World.size_setCell, World.size_drew] at hz); (try have hz0 : w.heap.size < w1.heap.size := by omega); (try have hz1 : w.heap.size + 1 < w1.heap.size := by omega); (try have hz2 : w.heap.size + 1 + 1 < w1.heap.size := by omega); (try have hz3 : w.heap.size + 1 + 1 + 1 < w1.heap.size := by omega); obtain ⟨hc, hfr⟩ := bcell hb; clear hb)
  all_goals
    ((try simp only [Exit.inBlock, Exit.then]); refine bodyPost_ret (by simp [results, Try.results13, go_sem, *]; try rfl) rfl ?_)
    exact ⟨by simp_all, by go_grown⟩
set_option maxHeartbeats 1000000 in
theorem set_no (a b c : Bool) (n k : Int) (x : Bool) (w : World) (h : fin a b c n k = false) :
    Calls Try.prog 13 #[.agg #[.bool a, .bool b, .bool c, .int .i64 n], .int .i64 k, .bool x] w fun e w' => e = .returned (.tuple #[.agg #[.bool false, .bool false, .bool false, .int .i64 0], .int .i64 2]) ∧ Below w.heap.size w w' := by
  go_enter Try.func13, Try.ntmps13
  go_wp2_with (go_at_call 15; refine (fine_any _ _ _ _ _ _).mono ?_; rintro e w1 ⟨rfl, hb⟩; have hB : Below w.heap.size w w1 := bstep (by go_grown) hb; have hz := hb.size; (try simp only [World.size_alloc, World.size_setCell, World.size_drew] at hz); (try have hz0 : w.heap.size < w1.heap.size := by omega); (try have hz1 : w.heap.size + 1 < w1.heap.size := by omega); (try have hz2 : w.heap.size + 1 + 1 < w1.heap.size := by omega); (try have hz3 : w.heap.size + 1 + 1 + 1 < w1.heap.size := by omega); obtain ⟨hc, hfr⟩ := bcell hb; clear hb)
  all_goals
    ((try simp only [Exit.inBlock, Exit.then]); refine bodyPost_ret (by simp [results, Try.results13, go_sem, *]; try rfl) rfl ?_)
    exact ⟨by simp_all, by go_grown⟩
set_option maxHeartbeats 1000000 in
theorem rset_yes (a b c : Bool) (n k : Int) (x : Bool) (w : World) (h : fin a b c n k = true) :
    Calls Try.prog 14 #[.agg #[.bool a, .bool b, .bool c, .int .i64 n], .int .i64 k, .bool x] w fun e w' => e = .returned (.tuple #[.agg #[.bool true, .bool (x && k == 1), .bool (x && decide (1 < k)), .int .i64 n], .int .i64 0]) ∧ Below w.heap.size w w' := by
  cases x
  all_goals
    go_enter Try.func14, Try.ntmps14
    go_wp2_with (go_at_call 16; refine (rfine_any _ _ _ _ _ _).mono ?_; rintro e w1 ⟨rfl, hb⟩; have hB : Below w.heap.size w w1 := bstep (by go_grown) hb; have hz := hb.size; (try simp only [World.size_alloc, World.size_setCell, World.size_drew] at hz); (try have hz0 : w.heap.size < w1.heap.size := by omega); (try have hz1 : w.heap.size + 1 < w1.heap.size := by omega); (try have hz2 : w.heap.size + 1 + 1 < w1.heap.size := by omega); (try have hz3 : w.heap.size + 1 + 1 + 1 < w1.heap.size := by omega); obtain ⟨hc, hfr⟩ := bcell hb; clear hb)
  all_goals
    ((try simp only [Exit.inBlock, Exit.then]); refine bodyPost_ret (by simp [results, Try.results14, go_sem, *]; try rfl) rfl ?_)
    exact ⟨by simp_all, by go_grown⟩
set_option maxHeartbeats 1000000 in
theorem rset_no (a b c : Bool) (n k : Int) (x : Bool) (w : World) (h : fin a b c n k = false) :
    Calls Try.prog 14 #[.agg #[.bool a, .bool b, .bool c, .int .i64 n], .int .i64 k, .bool x] w fun e w' => e = .returned (.tuple #[.agg #[.bool false, .bool false, .bool false, .int .i64 0], .int .i64 2]) ∧ Below w.heap.size w w' := by
  go_enter Try.func14, Try.ntmps14
  go_wp2_with (go_at_call 16; refine (rfine_any _ _ _ _ _ _).mono ?_; rintro e w1 ⟨rfl, hb⟩; have hB : Below w.heap.size w w1 := bstep (by go_grown) hb; have hz := hb.size; (try simp only [World.size_alloc, World.size_setCell, World.size_drew] at hz); (try have hz0 : w.heap.size < w1.heap.size := by omega); (try have hz1 : w.heap.size + 1 < w1.heap.size := by omega); (try have hz2 : w.heap.size + 1 + 1 < w1.heap.size := by omega); (try have hz3 : w.heap.size + 1 + 1 + 1 < w1.heap.size := by omega); obtain ⟨hc, hfr⟩ := bcell hb; clear hb)
  all_goals
    ((try simp only [Exit.inBlock, Exit.then]); refine bodyPost_ret (by simp [results, Try.results14, go_sem, *]; try rfl) rfl ?_)
    exact ⟨by simp_all, by go_grown⟩
end Go.Proofs.Ytldfgeipgjmjcaa
