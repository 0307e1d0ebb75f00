/- A schedule's Tick, where the window goes on. -/
import Derived.Test.YtlmgkdilidgkgaaSched1
namespace Go.Proofs.Ytlmgkdilidgkgaa
open Go.RowKit
set_option linter.unusedVariables false
set_option linter.unusedSimpArgs false
attribute [local go_sem] Oper.semAt_some
set_option maxHeartbeats 4000000 in
theorem tick_in (g gl n cap : Nat) (X Y : Nat → Int) (a : Nat) (b c : Int) (w : World) (h : IsS w g gl n cap X Y a b c) (ha : a < n) (hb0 : 0 ≤ b) (hb1 : b + 1 < Y a) (hy : Y a ≤ 255) (hc0 : 0 ≤ c) (hc1 : c < 9223372036854775807) :
    Calls Try.prog 17 #[.pointer (some ⟨g, 0, none⟩)] w fun e w' => e = .returned (.tuple #[.int .i64 (X a), .int .i64 (X a)]) ∧ IsS w' g gl n cap X Y a (b + 1) (c + 1) ∧ Kept g w w' := by
  have ha' : (a : Int) < n := by omega
  have ha0 : (0 : Int) ≤ a := by omega
  have s1 : IntKind.u64.wrap (c + 1) = c + 1 := by rw [IntKind.wrap_u64]; omega
  have s2 : IntKind.i64.wrap (b + 1) = b + 1 := IntWalk.i64_in _ (by omega)
  have hz : (c + 1 == 0) = false := beq_eq_false_iff_ne.2 (by omega)
  have hz2 : (b + 1 == Y a) = false := beq_eq_false_iff_ne.2 (by omega)
  have hgl := h.lt
  have hS0 : IsS (w.alloc (.cells #[.pointer (some ⟨g, 0, none⟩)] 29)) g gl n cap X Y a b c := h.below ((Below.refl _ _).alloc (Nat.le_refl _) _)
  have H0 := Lib.hid hS0
  clear h hS0
  go_enter Try.func17, Try.ntmps17
  go_wp2_with fail
  refine (snone_not g gl n cap X Y a b c _ H0.out (by omega)).mono ?_; rintro e w1 ⟨rfl, rfl⟩
  go_wp2_with fail
  refine (spart_any g gl n cap X Y a b c _ H0.out ha).mono ?_; rintro e w2 ⟨rfl, hb2⟩
  have H2 := Lib.hid (H0.out.below hb2)
  have HK2 := Lib.hid (show Kept g w w2 from (Kept.of_below ((Below.refl _ _).alloc (Nat.le_refl _) _)).trans (.of_below hb2))
  have d0 : w2.cell? ⟨w.heap.size, 0, none⟩ = some (.pointer (some ⟨g, 0, none⟩)) := keepc hb2 ((bk_cell (bk_new w _) 0).trans rfl)
  have hz3 := hb2.size
  rw [World.size_alloc] at hz3
  obtain ⟨c0, c1, c2, c3⟩ := H2.out.cells
  have f2 := bk_frozen H2.out.blk 2
  have f3 := bk_frozen H2.out.blk 3
  have hr := (H2.out.row a ha).2
  have hlt2 := block_lt_of_cell hr
  have hgl2 := H2.out.lt
  have hne := H2.out.ne
  clear hb2
  go_wp2_with fail
  go_quiet (fail)
  go_wp2_with fail
  refine (spart_any g gl n cap X Y a (b + 1) (c + 1) _ (by exact ((H2.out.set3 (c + 1)).set2 (b + 1)).below (bdrewN (Below.refl _ _) _)) ha).mono ?_; rintro e w4 ⟨rfl, hb4⟩
  have H4 := Lib.hid ((((H2.out.set3 (c + 1)).set2 (b + 1)).below (bdrewN (Below.refl _ _) _)).below hb4)
  have HK4 := Lib.hid ((((HK2.out.setCell 3 _).setCell 2 _).drewN _).then_below hb4)
  clear hb4
  go_wp2
  go_ret2
  exact ⟨rfl, H4.out, HK4.out⟩
end Go.Proofs.Ytlmgkdilidgkgaa
