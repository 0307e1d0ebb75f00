/- A queue in memory: contracts of queue's functions, told by its list. -/
import Derived.Test.YthdmbnbamlmciaaQL
import Derived.Lib.Hide
import Derived.Outline
import Derived.Deep.QuietTactic
import Derived.BigQuiet
import Derived.Deep.RegionWith
import Derived.Deep.RegionHeld3
namespace Go.Proofs.Ythdmbnbamlmciaa
open Go.RowKit
set_option linter.unusedVariables false
set_option linter.unusedSimpArgs false
def qc (l : Nat → Int) (a m : Nat) : Array Value := #[.bool true, .int .i64 (l 0), .int .i64 (l 1), .int .i64 (l 2), .int .i64 (l 3), .int .i64 (l 4), .int .i64 (l 5), .int .i64 (l 6), .int .i64 (l 7), .int .i64 a, .int .i64 m]
theorem qc_at (l : Nat → Int) (a m i : Nat) (h : i < 8) : (qc l a m)[1 + i]? = some (.int .i64 (l i)) := by
  match i, h with
  | 0, _ => rfl
  | 1, _ => rfl
  | 2, _ => rfl
  | 3, _ => rfl
  | 4, _ => rfl
  | 5, _ => rfl
  | 6, _ => rfl
  | 7, _ => rfl
theorem qc_set (l : Nat → Int) (a m i : Nat) (x : Int) (h : i < 8) : (qc l a m).setIfInBounds (1 + i) (.int .i64 x) = qc (updq l i x) a m := by
  match i, h with
  | 0, _ => rfl
  | 1, _ => rfl
  | 2, _ => rfl
  | 3, _ => rfl
  | 4, _ => rfl
  | 5, _ => rfl
  | 6, _ => rfl
  | 7, _ => rfl
theorem qc_congr {l l' : Nat → Int} (a m : Nat) (h : ∀ j, j < 8 → l j = l' j) : qc l a m = qc l' a m := by
  unfold qc
  rw [h 0 (by omega), h 1 (by omega), h 2 (by omega), h 3 (by omega), h 4 (by omega), h 5 (by omega), h 6 (by omega), h 7 (by omega)]
/-- a queue's block -/
def RawQ (w : World) (g : Nat) (l : Nat → Int) (a m : Nat) : Prop := w.heap[g]? = some (.cells (qc l a m) 44 (0, 0))
theorem RawQ.made {w : World} {g : Nat} {l : Nat → Int} {a m : Nat} (h : RawQ w g l a m) : w.cell? ⟨g, 0, none⟩ = some (.bool true) := (bk_cell h 0).trans rfl
theorem RawQ.cat {w : World} {g : Nat} {l : Nat → Int} {a m : Nat} (h : RawQ w g l a m) : w.cell? ⟨g, 9, none⟩ = some (.int .i64 a) := (bk_cell h 9).trans rfl
theorem RawQ.many {w : World} {g : Nat} {l : Nat → Int} {a m : Nat} (h : RawQ w g l a m) : w.cell? ⟨g, 10, none⟩ = some (.int .i64 m) := (bk_cell h 10).trans rfl
theorem RawQ.at {w : World} {g : Nat} {l : Nat → Int} {a m : Nat} (h : RawQ w g l a m) (i : Nat) (hi : i < 8) : w.cell? ⟨g, 1 + i, none⟩ = some (.int .i64 (l i)) := (bk_cell h (1 + i)).trans (qc_at l a m i hi)
theorem RawQ.set {w : World} {g : Nat} {l : Nat → Int} {a m : Nat} (h : RawQ w g l a m) (i : Nat) (x : Int) (hi : i < 8) : RawQ (w.setCell ⟨g, 1 + i, none⟩ (.int .i64 x)) g (updq l i x) a m := by
  have := bk_set h (1 + i) (.int .i64 x)
  rwa [qc_set l a m i x hi] at this
theorem RawQ.setAt {w : World} {g : Nat} {l : Nat → Int} {a m : Nat} (h : RawQ w g l a m) (a' : Nat) : RawQ (w.setCell ⟨g, 9, none⟩ (.int .i64 a')) g l a' m := bk_set h 9 _
theorem RawQ.setMany {w : World} {g : Nat} {l : Nat → Int} {a m : Nat} (h : RawQ w g l a m) (m' : Nat) : RawQ (w.setCell ⟨g, 10, none⟩ (.int .i64 m')) g l a m' := bk_set h 10 _
theorem RawQ.below {w w1 : World} {g : Nat} {l : Nat → Int} {a m : Nat} (h : RawQ w g l a m) (hb : Below w.heap.size w w1) : RawQ w1 g l a m := bk_below h hb
theorem ie22 : IntElem Try.prog 22 3 .i64 8 := ⟨Try.underlying22, by kernel_rfl, by decide⟩
theorem new_any (w : World) :
    Calls Try.prog 9 #[] w fun e w' => e = .returned (.pointer (some ⟨w.heap.size, 0, none⟩)) ∧ w' = w.alloc (.cells (qc (fun _ => 0) 0 0) 44) := by
  go_enter Try.func9, Try.ntmps9
  go_wp2_with (refine wpList_build_to rfl 44 _ rfl (qc (fun _ => 0) 0 0) (by kernel_rfl) ?_)
  go_returns
  exact ⟨rfl, rfl⟩
theorem place_any (g : Nat) (l : Nat → Int) (a m k : Nat) (w : World) (h : RawQ w g l a m) (ha : a < 8) (hk : k ≤ 8) :
    Calls Try.prog 21 #[.pointer (some ⟨g, 0, none⟩), .int .i64 k] w fun e w' => e = .returned (.pointer (some ⟨g, 1 + (a + k) % 8, none⟩)) ∧ Below w.heap.size w w' := by
  have c9 := h.cat
  have e1 : IntKind.i64.wrap ((a : Int) + k) = (a : Int) + k := IntWalk.i64_in _ (by omega)
  have b1 : (0 : Int) ≤ ((a : Int) + k) % 8 := by omega
  have b2 : ((a : Int) + k) % 8 < 8 := by omega
  have b3 : (0 : Int) ≤ (a : Int) + k := by omega
  have b4 : (((a : Int) + k) % 8).toNat = (a + k) % 8 := by omega
  go_enter Try.func21, Try.ntmps21
  go_wp2_with fail
  go_quiet (fail)
  go_wp2
  go_returns
  exact ⟨by simp, bdrewN (Below.refl _ _) _⟩
end Go.Proofs.Ythdmbnbamlmciaa
