/- Helper text of this seat (Fin): contracts of functions of the given program and of its references, each told by its theorem. -/
import Derived.Test.YtldfgeipgjmjcaaLaws
namespace Go.Proofs.Ytldfgeipgjmjcaa
open Go.RowKit
set_option linter.unusedVariables false
set_option linter.unusedSimpArgs false
theorem fin_n {a b c : Bool} {n k : Int} (h : fin a b c n k = true) : 0 ≤ n ∧ n < 1024 := by
  simp [fin, okE] at h
  exact ⟨h.1.1.1.1.1, h.1.1.1.1.2⟩
theorem fin_mk {b c : Bool} {n k : Int} (h1 : 0 ≤ n) (h2 : n < 1024) (h3 : (c && b) = false) (h4 : 1 ≤ k) : fin true b c n k = true := by
  simp [fin, okE, h1, h2, h4]
  cases b <;> cases c <;> simp_all
theorem fin_neg {a b c : Bool} {n k : Int} (h4 : ¬ 1 ≤ k) : fin a b c n k = false := by simp [fin, h4]
theorem wr_of {a b c : Bool} {n k : Int} (h : fin a b c n k = true) : wr a b c n k = if b then 1 else if c then if k = 1 then 2 else 3 else 0 := by simp [wr, h]
theorem wrE_of {a b c : Bool} {n k : Int} (h : fin a b c n k = true) : wrE a b c n k = if b then 0 else if c then 0 else 8 := by simp [wrE, h]
end Go.Proofs.Ytldfgeipgjmjcaa
