/- Helper text of this seat (Rdr): contracts of functions of the given program and of its references, each told by its theorem. -/
import Derived.Test.YtjgelbcibjaehaaBlk
import Derived.Lib.Hide
namespace Go.Proofs.Ytjgelbcibjaehaa
open Go.RowKit
set_option linter.unusedVariables false
set_option linter.unusedSimpArgs false
/-- a reader in memory -/
def IsR (w : World) (g : Nat) (s : ByteArray) (f : Bool) : Prop := w.heap[g]? = some (.cells #[.string s, .bool f] 51 (0, 0))
theorem IsR.cells {w : World} {g : Nat} {s : ByteArray} {f : Bool} (h : IsR w g s f) : w.cell? ⟨g, 0, none⟩ = some (.string s) ∧ w.cell? ⟨g, 1, none⟩ = some (.bool f) ∧ w.frozen? ⟨g, 0, none⟩ = false ∧ w.frozen? ⟨g, 1, none⟩ = false :=
  ⟨(bk_cell h 0).trans rfl, (bk_cell h 1).trans rfl, bk_frozen h 0, bk_frozen h 1⟩
theorem IsR.set0 {w : World} {g : Nat} {s : ByteArray} {f : Bool} (h : IsR w g s f) (s' : ByteArray) : IsR (w.setCell ⟨g, 0, none⟩ (.string s')) g s' f := bk_set h 0 _
theorem IsR.set1 {w : World} {g : Nat} {s : ByteArray} {f : Bool} (h : IsR w g s f) (f' : Bool) : IsR (w.setCell ⟨g, 1, none⟩ (.bool f')) g s f' := bk_set h 1 _
theorem fine_nil (w : World) :
    Calls Try.prog 13 #[.pointer none] w fun e w' => e = .returned (.bool false) ∧ w' = w := by
  go_enter Try.func13, Try.ntmps13
  go_wp2
  go_ret
  exact ⟨rfl, rfl⟩
theorem fine_any (g : Nat) (s : ByteArray) (f : Bool) (w : World) (h : IsR w g s f) :
    Calls Try.prog 13 #[.pointer (some ⟨g, 0, none⟩)] w fun e w' => e = .returned (.bool f) ∧ w' = w := by
  obtain ⟨h0, h1, h2, h3⟩ := h.cells
  go_enter Try.func13, Try.ntmps13
  go_wp2
  go_ret
  exact ⟨rfl, rfl⟩
theorem left_nil (w : World) :
    Calls Try.prog 14 #[.pointer none] w fun e w' => e = .returned (.int .i64 0) ∧ w' = w := by
  go_enter Try.func14, Try.ntmps14
  go_wp2_with (go_at_call 13; refine (fine_nil _).mono ?_; rintro e w1 ⟨rfl, rfl⟩)
  go_ret
  exact ⟨rfl, rfl⟩
def leftOf (s : ByteArray) (f : Bool) : Int := if f then s.size else 0
theorem left_any (g : Nat) (s : ByteArray) (f : Bool) (w : World) (h : IsR w g s f) :
    Calls Try.prog 14 #[.pointer (some ⟨g, 0, none⟩)] w fun e w' => e = .returned (.int .i64 (leftOf s f)) ∧ w' = w := by
  obtain ⟨h0, h1, h2, h3⟩ := h.cells
  cases f
  all_goals
    go_enter Try.func14, Try.ntmps14
    go_wp2_with (go_at_call 13; refine (fine_any _ _ _ _ h).mono ?_; rintro e w1 ⟨rfl, rfl⟩)
    go_ret
    exact ⟨rfl, rfl⟩
theorem take_bad (g : Nat) (s : ByteArray) (n : Int) (w : World) (h : IsR w g s true) (hs : s.size ≤ 140737488351232) (hn : n < 0 ∨ s.size < n) :
    Calls Try.prog 19 #[.pointer (some ⟨g, 0, none⟩), .int .i64 n] w fun e w' => e = .returned (.string ByteArray.empty) ∧ w' = w.setCell ⟨g, 1, none⟩ (.bool false) := by
  obtain ⟨h0, h1, h2, h3⟩ := h.cells
  have hl : leftOf s true = s.size := rfl
  rcases hn with hn | hn
  · go_enter Try.func19, Try.ntmps19
    go_wp2_with (go_at_call 14; refine (left_any _ _ _ _ h).mono ?_; rintro e w1 ⟨rfl, rfl⟩)
    go_ret
    exact ⟨rfl, rfl⟩
  · have hn0 : ¬ n < 0 := by omega
    go_enter Try.func19, Try.ntmps19
    go_wp2_with (go_at_call 14; refine (left_any _ _ _ _ h).mono ?_; rintro e w1 ⟨rfl, rfl⟩)
    go_ret
    exact ⟨rfl, rfl⟩
theorem take_ok (g : Nat) (s : ByteArray) (n : Nat) (w : World) (h : IsR w g s true) (hs : s.size ≤ 140737488351232) (hn : n ≤ s.size) :
    Calls Try.prog 19 #[.pointer (some ⟨g, 0, none⟩), .int .i64 n] w fun e w' => e = .returned (.string (s.extract 0 n)) ∧ w' = w.setCell ⟨g, 0, none⟩ (.string (s.extract n s.size)) := by
  obtain ⟨h0, h1, h2, h3⟩ := h.cells
  have hl : leftOf s true = s.size := rfl
  have hn1 : ¬ (n : Int) < 0 := by omega
  have hn2 : ¬ (s.size : Int) < n := by omega
  go_enter Try.func19, Try.ntmps19
  go_wp2_with (go_at_call 14; refine (left_any _ _ _ _ h).mono ?_; rintro e w1 ⟨rfl, rfl⟩)
  go_ret
  exact ⟨rfl, rfl⟩
end Go.Proofs.Ytjgelbcibjaehaa
