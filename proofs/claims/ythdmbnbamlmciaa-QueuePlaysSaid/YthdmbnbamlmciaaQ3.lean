/- A queue's calls by its list: Head, Pop, Turn, Drop. -/
import Derived.Test.YthdmbnbamlmciaaQ2
import Derived.StillTailTactics
namespace Go.Proofs.Ythdmbnbamlmciaa
open Go.RowKit
set_option linter.unusedVariables false
set_option linter.unusedSimpArgs false
theorem head_nil (w : World) :
    Calls Try.prog 11 #[.pointer none] w fun e w' => e = .returned (.tuple #[.int .i64 0, .bool false]) ∧ w' = w := by
  go_enter Try.func11, Try.ntmps11
  go_wp2
  go_ret2
  exact ⟨rfl, rfl⟩
theorem head_zero (g : Nat) (w : World) (h : w.cell? ⟨g, 10, none⟩ = some (.int .i64 0)) :
    Calls Try.prog 11 #[.pointer (some ⟨g, 0, none⟩)] w fun e w' => e = .returned (.tuple #[.int .i64 0, .bool false]) ∧ w' = w := by
  go_enter Try.func11, Try.ntmps11
  go_wp2
  go_ret2
  exact ⟨rfl, rfl⟩
theorem head_none (g : Nat) (w : World) (h : IsQ w g []) :
    Calls Try.prog 11 #[.pointer (some ⟨g, 0, none⟩)] w fun e w' => e = .returned (.tuple #[.int .i64 0, .bool false]) ∧ Below w.heap.size w w' := by
  obtain ⟨l, a, m, hr, ha, hq, hg⟩ := h
  have hm : m = 0 := by have := congrArg List.length hq; rw [qs_length] at this; simpa using this
  subst hm
  refine (head_zero g w hr.many).mono ?_
  rintro e w' ⟨rfl, rfl⟩
  exact ⟨rfl, Below.refl _ _⟩
theorem head_some (g : Nat) (x : Int) (L : List Int) (w : World) (h : IsQ w g (x :: L)) :
    Calls Try.prog 11 #[.pointer (some ⟨g, 0, none⟩)] w fun e w' => e = .returned (.tuple #[.int .i64 x, .bool true]) ∧ Below w.heap.size w w' := by
  obtain ⟨l, a, m, hr, ha, hq, hg⟩ := h
  have hlen : m = L.length + 1 := by have := congrArg List.length hq; rw [qs_length] at this; simpa using this
  have hx : l ((a + 0) % 8) = x := by
    have h1 := qs_getD l a m 0 (by omega)
    rw [hq] at h1
    simpa using h1.symm
  have hm0 : ((m : Int) == 0) = false := beq_eq_false_iff_ne.2 (by omega)
  have c10 := hr.many
  have HR := Lib.hid hr
  have HX := Lib.hid hx
  clear hr hx hq hlen hg
  go_enter Try.func11, Try.ntmps11
  go_wp2_with fail
  refine (place_any g l a m 0 _ HR.out ha (by omega)).mono ?_; rintro e w1 ⟨rfl, hb⟩
  have x1 := (HR.out.below hb).at ((a + 0) % 8) (by omega)
  rw [HX.out, Nat.add_zero] at x1
  have HB := Lib.hid hb
  clear hb c10
  go_wp2
  go_ret2
  exact ⟨rfl, HB.out⟩
theorem pop_none (g : Nat) (w : World) (h : IsQ w g []) :
    Calls Try.prog 15 #[.pointer (some ⟨g, 0, none⟩)] w fun e w' => e = .returned (.tuple #[.int .i64 0, .int .i64 4]) ∧ Below w.heap.size w w' := by
  have h' := h
  obtain ⟨l, a, m, hr, _⟩ := h'
  have c0 := hr.made
  have H := Lib.hid h
  clear h hr
  go_enter Try.func15, Try.ntmps15
  go_wp2_with fail
  refine (asked_ok g 1 _ c0 (by omega) (by omega)).mono ?_; rintro e w1 ⟨rfl, rfl⟩
  go_wp2_with fail
  refine (head_none g _ H.out).mono ?_; rintro e w2 ⟨rfl, hb⟩
  have HB := Lib.hid hb
  clear hb c0
  go_wp2
  go_ret2
  exact ⟨rfl, HB.out⟩
theorem pop_some (g : Nat) (x : Int) (L : List Int) (w : World) (h : IsQ w g (x :: L)) :
    Calls Try.prog 15 #[.pointer (some ⟨g, 0, none⟩)] w fun e w' => e = .returned (.tuple #[.int .i64 x, .int .i64 0]) ∧ IsQ w' g L ∧ Kept g w w' := by
  have h' := h
  obtain ⟨l, a, m, hr, ha, hq, hg⟩ := h'
  have hlen : m = L.length + 1 := by have := congrArg List.length hq; rw [qs_length] at this; simpa using this
  have hL8 := hg.le
  obtain ⟨m, rfl⟩ : ∃ k, m = k + 1 := ⟨m - 1, by omega⟩
  simp only [List.length_cons] at hL8
  have hm8 : m ≤ 8 := by omega
  have c0 := hr.made
  have H := Lib.hid h
  have HR := Lib.hid hr
  have HQ := Lib.hid hq
  have HG := Lib.hid hg
  clear h hr hq hlen hg hL8
  have e1 : IntKind.i64.wrap ((a : Int) + 1) = (a : Int) + 1 := IntWalk.i64_in _ (by omega)
  have b1 : (0 : Int) ≤ (a : Int) + 1 := by omega
  go_enter Try.func15, Try.ntmps15
  go_wp2_with fail
  refine (asked_ok g 1 _ c0 (by omega) (by omega)).mono ?_; rintro e w1 ⟨rfl, rfl⟩
  go_wp2_with fail
  refine (head_some g x L _ H.out).mono ?_; rintro e w2 ⟨rfl, hb⟩
  have HB := Lib.hid hb
  have HR2 := Lib.hid (HR.out.below hb)
  have x1 := HR2.out.cat
  have x2 := HR2.out.many
  have x3 : w2.frozen? ⟨g, 9, none⟩ = false := bk_frozen HR2.out _
  have x4 : w2.frozen? ⟨g, 10, none⟩ = false := bk_frozen HR2.out _
  clear hb c0
  go_wp2_with fail
  go_region
  go_wp2
  go_ret2
  refine ⟨rfl, ⟨l, (a + 1) % 8, m, ?_, by omega, ?_, HG.out.tail⟩, ?_⟩
  · have e1 : ((a : Int) + 1) % 8 = ((a + 1) % 8 : Nat) := by omega
    rw [e1]
    exact (HR2.out.setAt ((a + 1) % 8)).setMany m
  · rw [qs_tail, HQ.out]; rfl
  · exact ((((Kept.of_below HB.out).setCell 9 _).setCell 10 _).drew)
theorem turn_none (g : Nat) (w : World) (h : IsQ w g []) :
    Calls Try.prog 12 #[.pointer (some ⟨g, 0, none⟩)] w fun e w' => e = .returned (.int .i64 4) ∧ Below w.heap.size w w' := by
  have H := Lib.hid h
  clear h
  go_enter Try.func12, Try.ntmps12
  go_wp2_with fail
  refine (pop_none g _ H.out).mono ?_; rintro e w1 ⟨rfl, hb⟩
  have HB := Lib.hid hb
  clear hb
  go_wp2
  go_ret
  exact ⟨rfl, HB.out⟩
theorem turn_some (g : Nat) (x : Int) (L : List Int) (w : World) (h : IsQ w g (x :: L)) :
    Calls Try.prog 12 #[.pointer (some ⟨g, 0, none⟩)] w fun e w' => e = .returned (.int .i64 0) ∧ IsQ w' g (L ++ [x]) ∧ Kept g w w' := by
  have hg : Good (x :: L) := by obtain ⟨l, a, m, _, _, _, hg⟩ := h; exact hg
  have hpe : pushE L x = 0 := by
    have h1 := hg.2 x (by simp)
    have h2 := (List.nodup_cons.1 hg.1).1
    unfold pushE
    rw [if_neg (by omega), if_neg h2]
  have hpl : pushL L x = L ++ [x] := by simp [pushL, hpe]
  have hp := fun (w : World) (h : IsQ w g L) => push_any g L x w h
  rw [hpe, hpl] at hp
  have HP := Lib.hid hp
  have H := Lib.hid h
  clear h hg hpe hpl hp
  go_enter Try.func12, Try.ntmps12
  go_wp2_with fail
  refine (pop_some g x L _ H.out).mono ?_; rintro e w1 ⟨rfl, h1, hk1⟩
  have H1 := Lib.hid h1
  have HK := Lib.hid hk1
  clear h1 hk1
  go_wp2_with fail
  refine (HP.out _ H1.out).mono ?_; rintro e w2 ⟨rfl, h2, hk2⟩
  have H2 := Lib.hid h2
  have HK2 := Lib.hid (HK.out.trans hk2)
  clear h2 hk2
  go_wp2
  go_ret
  exact ⟨rfl, H2.out, HK2.out⟩
end Go.Proofs.Ythdmbnbamlmciaa
