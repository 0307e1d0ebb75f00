/- Helper text of this seat (Kp): contracts of functions of the given program and of its references, each told by its theorem. -/
import Derived.Test.YtbgpimdigkiflaaRing2
namespace Go.Proofs.Ytbgpimdigkiflaa
open Go.RowKit
set_option linter.unusedVariables false
set_option linter.unusedSimpArgs false
/-- the 72 words and the mark, as they lie -/
def kc (f : Nat → Int) (b : Bool) : Array Value := ((List.range 72).map (fun i => Value.int .u32 (f i)) ++ [Value.bool b]).toArray
theorem kc_at (f : Nat → Int) (b : Bool) (i : Nat) (h : i < 72) : (kc f b)[i]? = some (.int .u32 (f i)) := by
  simp [kc, List.getElem?_append, h]
theorem kc_bad (f : Nat → Int) (b : Bool) : (kc f b)[72]? = some (.bool b) := by
  simp [kc, List.getElem?_append]
theorem kc_set (f : Nat → Int) (b : Bool) (i : Nat) (x : Int) (h : i < 72) : (kc f b).setIfInBounds i (.int .u32 x) = kc (upd f i x) b := by
  apply Array.ext_getElem?
  intro j
  rw [Array.getElem?_setIfInBounds]
  have hs : (kc f b).size = 73 := by simp [kc]
  by_cases hj : i = j
  · subst hj
    rw [if_pos rfl, kc_at _ _ _ h]
    simp [hs, upd]
    omega
  · rw [if_neg hj]
    by_cases h2 : j < 72
    · rw [kc_at _ _ _ h2, kc_at _ _ _ h2]
      simp only [upd]
      rw [if_neg (fun e => hj e.symm)]
    · by_cases h3 : j = 72
      · subst h3
        rw [kc_bad, kc_bad]
      · rw [Array.getElem?_eq_none (by omega), Array.getElem?_eq_none (by simp [kc]; omega)]
/-- words kept in memory -/
def IsKept (w : World) (g : Nat) (f : Nat → Int) (b : Bool) : Prop := w.heap[g]? = some (.cells (kc f b) 37 (0, 0))
theorem IsKept.at {w : World} {g : Nat} {f : Nat → Int} {b : Bool} (h : IsKept w g f b) (i : Nat) (hi : i < 72) : w.cell? ⟨g, i, none⟩ = some (.int .u32 (f i)) := (bk_cell h i).trans (kc_at f b i hi)
theorem IsKept.bad {w : World} {g : Nat} {f : Nat → Int} {b : Bool} (h : IsKept w g f b) : w.cell? ⟨g, 72, none⟩ = some (.bool b) := (bk_cell h 72).trans (kc_bad f b)
theorem IsKept.set {w : World} {g : Nat} {f : Nat → Int} {b : Bool} (h : IsKept w g f b) (i : Nat) (x : Int) (hi : i < 72) : IsKept (w.setCell ⟨g, i, none⟩ (.int .u32 x)) g (upd f i x) b := by
  have := bk_set h i (.int .u32 x)
  rwa [kc_set f b i x hi] at this
theorem kput_any (g : Nat) (f : Nat → Int) (a : Nat) (x : Int) (w : World) (h : IsKept w g f false) (ha : a < 72) :
    Calls Try.prog 12 #[.pointer (some ⟨g, 0, none⟩), .int .i64 a, .int .u32 x] w fun e w' => e = .returned (.tuple #[]) ∧ IsKept w' g (upd f a x) false ∧ Kept g w w' := by
  have h1 : ¬ (a : Int) < 0 := by omega
  have h2 : ¬ (72 : Int) ≤ a := by omega
  have h3 : (a : Int) < 72 := by omega
  have c1 := h.at a ha
  have c2 : w.frozen? ⟨g, a, none⟩ = false := bk_frozen h a
  go_enter Try.func12, Try.ntmps12
  go_wp2
  go_end0
  exact ⟨rfl, h.set a x ha, (Kept.refl _ _).setCell a _⟩
theorem kget_any (g : Nat) (f : Nat → Int) (a : Nat) (w : World) (h : IsKept w g f false) (ha : a < 72) :
    Calls Try.prog 15 #[.pointer (some ⟨g, 0, none⟩), .int .i64 a] w fun e w' => e = .returned (.int .u32 (f a)) ∧ w' = w := by
  have h1 : ¬ (a : Int) < 0 := by omega
  have h2 : ¬ (72 : Int) ≤ a := by omega
  have h3 : (a : Int) < 72 := by omega
  have c1 := h.at a ha
  go_enter Try.func15, Try.ntmps15
  go_wp2
  go_ret
  exact ⟨rfl, rfl⟩
def KS (g : Nat) (f : Nat → Int) (w : World) : Prop := IsKept w g f false ∧ ∀ i, 0 ≤ f i ∧ f i < 4294967296
theorem keeps (R K : Nat) (h : K ≠ R) : Keeps R K 72 (KS K) 12 15 (.pointer (some ⟨K, 0, none⟩)) where
  ne := h
  lt := fun hS => bk_lt hS.1
  eP := fun args w => by kernel_rfl
  eG := fun args w => by kernel_rfl
  keep := fun hS hk => ⟨hk.blk hS.1 h, hS.2⟩
  word := fun hS i _ => hS.2 i
  put := fun f W a x hS ha h0 h1 => (kput_any K f a x W hS.1 ha).mono fun e W' ⟨he, h2, h3⟩ => ⟨he, ⟨h2, fun i => by unfold upd; split; exact ⟨h0, h1⟩; exact hS.2 i⟩, h3⟩
  get := fun f W a hS ha => (kget_any K f a W hS.1 ha).mono fun e W' ⟨he, h2⟩ => ⟨he, by subst h2; exact Below.refl _ _⟩
end Go.Proofs.Ytbgpimdigkiflaa
