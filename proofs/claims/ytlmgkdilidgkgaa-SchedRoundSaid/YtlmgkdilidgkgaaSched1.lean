/- A schedule in memory, and what it tells. -/
import Derived.Test.YtlmgkdilidgkgaaPlanW
import Derived.Test.YtlmgkdilidgkgaaRng1
import Derived.WalkSpells
import Derived.Deep.QuietTactic
import Derived.BigQuiet
import Derived.StillTailTactics
namespace Go.Proofs.Ytlmgkdilidgkgaa
open Go.RowKit
set_option linter.unusedVariables false
set_option linter.unusedSimpArgs false
/-- a schedule: its windows' row, which one, how many ticks of it are gone, how many there were -/
structure IsS (W : World) (g gl n cap : Nat) (X Y : Nat → Int) (at' gone : Int) (tk : Int) : Prop where
  blk : W.heap[g]? = some (.cells #[.slice (some ⟨gl, 0, none⟩) n cap, .int .i64 at', .int .i64 gone, .int .u64 tk] 44 (0, 0))
  row : ∀ i, i < n → W.cell? ⟨gl, i * 2, none⟩ = some (.int .i64 (X i)) ∧ W.cell? ⟨gl, i * 2 + 1, none⟩ = some (.int .i64 (Y i))
  ne : gl ≠ g
theorem IsS.below {W W' : World} {g gl n cap : Nat} {X Y : Nat → Int} {a b c : Int} (h : IsS W g gl n cap X Y a b c) (hb : Below W.heap.size W W') : IsS W' g gl n cap X Y a b c :=
  ⟨bk_below h.blk hb, fun i hi => ⟨keepc hb (h.row i hi).1, keepc hb (h.row i hi).2⟩, h.ne⟩
theorem IsS.lt {W : World} {g gl n cap : Nat} {X Y : Nat → Int} {a b c : Int} (h : IsS W g gl n cap X Y a b c) : g < W.heap.size := bk_lt h.blk
theorem IsS.cells {W : World} {g gl n cap : Nat} {X Y : Nat → Int} {a b c : Int} (h : IsS W g gl n cap X Y a b c) :
    W.cell? ⟨g, 0, none⟩ = some (.slice (some ⟨gl, 0, none⟩) n cap) ∧ W.cell? ⟨g, 1, none⟩ = some (.int .i64 a) ∧ W.cell? ⟨g, 2, none⟩ = some (.int .i64 b) ∧ W.cell? ⟨g, 3, none⟩ = some (.int .u64 c) :=
  ⟨(bk_cell h.blk 0).trans rfl, (bk_cell h.blk 1).trans rfl, (bk_cell h.blk 2).trans rfl, (bk_cell h.blk 3).trans rfl⟩
theorem IsS.set1 {W : World} {g gl n cap : Nat} {X Y : Nat → Int} {a b c : Int} (h : IsS W g gl n cap X Y a b c) (x : Int) : IsS (W.setCell ⟨g, 1, none⟩ (.int .i64 x)) g gl n cap X Y x b c :=
  ⟨bk_set h.blk 1 _, fun i hi => ⟨((Kept.refl g W).setCell 1 _).cell (h.row i hi).1 h.ne, ((Kept.refl g W).setCell 1 _).cell (h.row i hi).2 h.ne⟩, h.ne⟩
theorem IsS.set2 {W : World} {g gl n cap : Nat} {X Y : Nat → Int} {a b c : Int} (h : IsS W g gl n cap X Y a b c) (x : Int) : IsS (W.setCell ⟨g, 2, none⟩ (.int .i64 x)) g gl n cap X Y a x c :=
  ⟨bk_set h.blk 2 _, fun i hi => ⟨((Kept.refl g W).setCell 2 _).cell (h.row i hi).1 h.ne, ((Kept.refl g W).setCell 2 _).cell (h.row i hi).2 h.ne⟩, h.ne⟩
theorem IsS.set3 {W : World} {g gl n cap : Nat} {X Y : Nat → Int} {a b c : Int} (h : IsS W g gl n cap X Y a b c) (x : Int) : IsS (W.setCell ⟨g, 3, none⟩ (.int .u64 x)) g gl n cap X Y a b x :=
  ⟨bk_set h.blk 3 _, fun i hi => ⟨((Kept.refl g W).setCell 3 _).cell (h.row i hi).1 h.ne, ((Kept.refl g W).setCell 3 _).cell (h.row i hi).2 h.ne⟩, h.ne⟩
theorem snone_nil (w : World) : Calls Try.prog 25 #[.pointer none] w fun e w' => e = .returned (.bool true) ∧ w' = w := by
  go_enter Try.func25, Try.ntmps25
  go_wp2
  go_ret
  exact ⟨rfl, rfl⟩
theorem snone_zero (g : Nat) (c : Nat) (w : World) (h : w.cell? ⟨g, 0, none⟩ = some (.slice none 0 c)) : Calls Try.prog 25 #[.pointer (some ⟨g, 0, none⟩)] w fun e w' => e = .returned (.bool true) ∧ w' = w := by
  go_enter Try.func25, Try.ntmps25
  go_wp2
  go_ret
  exact ⟨rfl, rfl⟩
theorem snone_not (g gl n cap : Nat) (X Y : Nat → Int) (a b c : Int) (w : World) (h : IsS w g gl n cap X Y a b c) (hn : 1 ≤ n) : Calls Try.prog 25 #[.pointer (some ⟨g, 0, none⟩)] w fun e w' => e = .returned (.bool false) ∧ w' = w := by
  obtain ⟨h0, _⟩ := h.cells
  have hz : ((n : Int) == 0) = false := beq_eq_false_iff_ne.2 (by omega)
  go_enter Try.func25, Try.ntmps25
  go_wp2
  go_ret
  exact ⟨rfl, rfl⟩
theorem spart_any (g gl n cap : Nat) (X Y : Nat → Int) (a : Nat) (b c : Int) (w : World) (h : IsS w g gl n cap X Y a b c) (ha : a < n) :
    Calls Try.prog 12 #[.pointer (some ⟨g, 0, none⟩)] w fun e w' => e = .returned (.int .i64 (X a)) ∧ Below w.heap.size w w' := by
  obtain ⟨h0, h1, h2, h3⟩ := h.cells
  have hr := (h.row a ha).1
  have ha' : (a : Int) < n := by omega
  have ha0 : (0 : Int) ≤ a := by omega
  have H := Lib.hid h
  clear h
  go_enter Try.func12, Try.ntmps12
  go_wp2_with fail
  refine (snone_not g gl n cap X Y a b c _ H.out (by omega)).mono ?_; rintro e w1 ⟨rfl, rfl⟩
  go_wp2_with fail
  go_quiet (fail)
  go_wp2
  go_ret
  exact ⟨rfl, bdrewN (Below.refl _ _) _⟩
theorem swindow_any (g gl n cap : Nat) (X Y : Nat → Int) (a : Nat) (b c : Int) (w : World) (h : IsS w g gl n cap X Y a b c) (ha : a < n) :
    Calls Try.prog 13 #[.pointer (some ⟨g, 0, none⟩)] w fun e w' => e = .returned (.int .i64 a) ∧ Below w.heap.size w w' := by
  obtain ⟨h0, h1, h2, h3⟩ := h.cells
  have H := Lib.hid h
  clear h
  go_enter Try.func13, Try.ntmps13
  go_wp2_with fail
  refine (snone_not g gl n cap X Y a b c _ H.out (by omega)).mono ?_; rintro e w1 ⟨rfl, rfl⟩
  go_wp2
  go_ret
  exact ⟨rfl, Below.refl _ _⟩
theorem sticks_any (g gl n cap : Nat) (X Y : Nat → Int) (a : Nat) (b c : Int) (w : World) (h : IsS w g gl n cap X Y a b c) (hn : 1 ≤ n) :
    Calls Try.prog 14 #[.pointer (some ⟨g, 0, none⟩)] w fun e w' => e = .returned (.int .u64 c) ∧ Below w.heap.size w w' := by
  obtain ⟨h0, h1, h2, h3⟩ := h.cells
  have H := Lib.hid h
  clear h
  go_enter Try.func14, Try.ntmps14
  go_wp2_with fail
  refine (snone_not g gl n cap X Y a b c _ H.out hn).mono ?_; rintro e w1 ⟨rfl, rfl⟩
  go_wp2
  go_ret
  exact ⟨rfl, Below.refl _ _⟩
theorem sleft_any (g gl n cap : Nat) (X Y : Nat → Int) (a : Nat) (b c : Int) (w : World) (h : IsS w g gl n cap X Y a b c) (ha : a < n) (h9 : -1000000 ≤ Y a - b ∧ Y a - b ≤ 1000000) :
    Calls Try.prog 15 #[.pointer (some ⟨g, 0, none⟩)] w fun e w' => e = .returned (.int .i64 (Y a - b)) ∧ Below w.heap.size w w' := by
  obtain ⟨h0, h1, h2, h3⟩ := h.cells
  have hr := (h.row a ha).2
  have ha' : (a : Int) < n := by omega
  have ha0 : (0 : Int) ≤ a := by omega
  have s1 : IntKind.i64.wrap (Y a - b) = Y a - b := IntWalk.i64_in _ (by omega)
  have H := Lib.hid h
  clear h
  go_enter Try.func15, Try.ntmps15
  go_wp2_with fail
  refine (snone_not g gl n cap X Y a b c _ H.out (by omega)).mono ?_; rintro e w1 ⟨rfl, rfl⟩
  go_wp2_with fail
  go_quiet (fail)
  go_wp2
  go_ret
  exact ⟨rfl, bdrewN (Below.refl _ _) _⟩
end Go.Proofs.Ytlmgkdilidgkgaa
