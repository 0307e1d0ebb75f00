/- The guard of the laws, and contracts with a configuration's rows written out. -/
import Derived.Test.YtofkgceenppdbaaXAwk
namespace Go.Proofs.Ytofkgceenppdbaa
open Go.RowKit
set_option linter.unusedVariables false
set_option linter.unusedSimpArgs false
def longB (C : Cfg) : Bool := decide (100 < C.nP) || (decide (100 < C.nW) || decide (100 < C.nC))
theorem longv (C : Cfg) (pP pW pC : Option Addr) (cP cW cC : Nat) (w : World) :
    Calls Try.prog 8 #[.agg #[.slice pP C.nP cP, .slice pW C.nW cW, .slice pC C.nC cC]] w fun e w' => e = .returned (.bool (longB C)) ∧ Below w.heap.size w w' := by
  unfold longB
  have i1 : decide ((100 : Int) < C.nP) = decide (100 < C.nP) := by congr 1; simp; omega
  have i2 : decide ((100 : Int) < C.nW) = decide (100 < C.nW) := by congr 1; simp; omega
  have i3 : decide ((100 : Int) < C.nC) = decide (100 < C.nC) := by congr 1; simp; omega
  by_cases a : 100 < C.nP
  · have a' : (100 : Int) < C.nP := by omega
    clear i1 i2 i3
    go_enter Try.func8, Try.ntmps8
    go_wp2
    go_ret
    exact ⟨by simp [a], by go_grown⟩
  · have a' : ¬ (100 : Int) < C.nP := by omega
    by_cases b : 100 < C.nW
    · have b' : (100 : Int) < C.nW := by omega
      clear i1 i2 i3
      go_enter Try.func8, Try.ntmps8
      go_wp2
      go_ret
      exact ⟨by simp [a, b], by go_grown⟩
    · have b' : ¬ (100 : Int) < C.nW := by omega
      clear i1 i2
      go_enter Try.func8, Try.ntmps8
      go_wp2
      go_ret
      exact ⟨by simp [a, b], by go_grown⟩
theorem short_big {C : Cfg} (h : longB C = false) : Big C := by
  simp [longB] at h
  exact ⟨by omega, by omega, by omega⟩
/-- a configuration in its cell -/
structure CV (w : World) (g : Nat) (C : Cfg) (p : Option Addr) (c : Nat) (q : Option Addr) (d : Nat) (r : Option Addr) (k : Nat) : Prop where
  h : w.heap[g]? = some (.cells #[.slice p C.nP c, .slice q C.nW d, .slice r C.nC k] 26 (0, 0))
  i : IsC w C ⟨p, c, q, d, r, k⟩
section
variable {w w' : World} {g : Nat} {C : Cfg} {p q r : Option Addr} {c d k : Nat}
theorem CV.below (h : CV w g C p c q d r k) (hb : Below w.heap.size w w') : CV w' g C p c q d r k := ⟨bk_below h.h hb, h.i.below hb⟩
theorem CV.cells (h : CV w g C p c q d r k) : w.cell? ⟨g, 0, none⟩ = some (.slice p C.nP c) ∧ w.cell? ⟨g, 1, none⟩ = some (.slice q C.nW d) ∧ w.cell? ⟨g, 2, none⟩ = some (.slice r C.nC k) ∧ g < w.heap.size :=
  ⟨(bk_cell h.h 0).trans rfl, (bk_cell h.h 1).trans rfl, (bk_cell h.h 2).trans rfl, bk_lt h.h⟩
end
end Go.Proofs.Ytofkgceenppdbaa
