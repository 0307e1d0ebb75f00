/- Helper text of this seat (RPut3): contracts of functions of the given program and of its references, each told by its theorem. -/
import Derived.Test.YtnhffghppjlbaaaRPutB
namespace Go.Proofs.Ytnhffghppjlbaaa
open Go.RowKit
set_option linter.unusedVariables false
set_option linter.unusedSimpArgs false
set_option maxHeartbeats 2000000 in
theorem rput_10_false (A B C : Int) (w : World) (hA : 0 ≤ A ∧ A < 4294967296) (hB : 0 ≤ B ∧ B < 4294967296) (hC : 0 ≤ C ∧ C < 4294967296) :
    Calls Try.prog 14 #[.agg #[.int .i64 10, .int .i64 A, .int .i64 B, .int .u32 C, .bool false]] w fun e w' => ((((A : Int) = A ∧ (0 : Int) = B ∧ (C : Int) = C ∧ false = false) → e = .returned (.tuple #[.agg #[.int .u32 10, .int .u32 A, .int .u32 C, .int .u32 0, .int .u32 0, .int .u32 0, .int .u32 0, .int .u32 0], .int .i64 0])) ∧ (¬ ((A : Int) = A ∧ (0 : Int) = B ∧ (C : Int) = C ∧ false = false) → e = .returned (.tuple #[.agg (regs rz), .int .i64 2]))) ∧ Below w.heap.size w w' := by
  have fA : fitB A = true := by simp [fitB]; omega
  have fB : fitB B = true := by simp [fitB]; omega
  have sA' : IntKind.u32.wrap A = A := IntWalk.u32_in _ (by omega)
  have sB' : IntKind.u32.wrap B = B := IntWalk.u32_in _ (by omega)
  have hW : Words (rf 10 A C 0 0 0 0 0) := words_rf (by omega) (by omega) (by omega) (by omega) (by omega) (by omega) (by omega) (by omega)
  have hc := fun w => rread_l hW w 10 A 0 C false 0 rfl rfl rfl rfl rfl rfl
  obtain ⟨q, hq⟩ : ∃ q : Bool, decide (((A : Int) = A ∧ (0 : Int) = B ∧ (C : Int) = C ∧ false = false)) = q := ⟨_, rfl⟩
  have heq : ∀ w : World, (Op.equalIn 10000 27 (.agg #[.int .i64 10, .int .i64 A, .int .i64 0, .int .u32 C, .bool false]) (.agg #[.int .i64 10, .int .i64 A, .int .i64 B, .int .u32 C, .bool false])).run Try.prog w = .ok q w := by
    intro w
    rw [eq_sys, ← hq]
    congr 1
    apply decide_eq_decide.2
    constructor
    · exact fun h => h.2
    · exact fun h => ⟨rfl, h⟩
  have HQ := Lib.hid hq
  have HC := Lib.hid hc
  clear hq hW hc
  go_enter Try.func14, Try.ntmps14
  go_wp2_with fail
  refine (fits_any _ _).mono ?_; rintro e w' ⟨rfl, rfl⟩
  go_wp2_with fail
  refine (fits_any _ _).mono ?_; rintro e w' ⟨rfl, rfl⟩
  go_wp2_with fail
  go_region
  go_wp2_with fail
  refine (HC.out _).mono ?_; rintro e w1 ⟨rfl, hb⟩
  have k0 : w1.heap[w.heap.size]? = some (.cells #[.int .i64 10, .int .i64 A, .int .i64 B, .int .u32 C, .bool false] 27 (0, 0)) := (hb.block w.heap.size (by go_grown)).trans (bk_alloc (bk_alloc (bk_new w _) _) _)
  have k1 : w1.heap[w.heap.size + 1]? = some (.cells (regs rz) 24 (0, 0)) := by
    have := bk_alloc (bk_new (w.alloc (.cells #[.int .i64 10, .int .i64 A, .int .i64 B, .int .u32 C, .bool false] 27)) (.cells (regs rz) 24 (0, 0))) (.cells #[.int .u32 10, .int .u32 A, .int .u32 C, .int .u32 0, .int .u32 0, .int .u32 0, .int .u32 0, .int .u32 0] 24)
    rw [World.size_alloc] at this
    exact (hb.block (w.heap.size + 1) (by go_grown)).trans this
  have k2 : w1.heap[w.heap.size + 1 + 1]? = some (.cells #[.int .u32 10, .int .u32 A, .int .u32 C, .int .u32 0, .int .u32 0, .int .u32 0, .int .u32 0, .int .u32 0] 24 (0, 0)) := by
    have := bk_new ((w.alloc (.cells #[.int .i64 10, .int .i64 A, .int .i64 B, .int .u32 C, .bool false] 27)).alloc (.cells (regs rz) 24 (0, 0))) (.cells #[.int .u32 10, .int .u32 A, .int .u32 C, .int .u32 0, .int .u32 0, .int .u32 0, .int .u32 0, .int .u32 0] 24)
    rw [World.size_alloc, World.size_alloc] at this
    exact (hb.block (w.heap.size + 1 + 1) (by go_grown)).trans this
  have hB1 : Below w.heap.size w w1 := bstep (by go_grown) hb
  have hz := bk_lt k2
  clear hb
  have c0 : w1.cell? ⟨w.heap.size, 0, none⟩ = some (.int .i64 10) := bk_cell k0 0
  have c1 : w1.cell? ⟨w.heap.size, 1, none⟩ = some (.int .i64 A) := bk_cell k0 1
  have c2 : w1.cell? ⟨w.heap.size, 2, none⟩ = some (.int .i64 B) := bk_cell k0 2
  have c3 : w1.cell? ⟨w.heap.size, 3, none⟩ = some (.int .u32 C) := bk_cell k0 3
  have c4 : w1.cell? ⟨w.heap.size, 4, none⟩ = some (.bool false) := bk_cell k0 4
  have hz0 : w.heap.size < w1.heap.size := by omega
  have hz1 : w.heap.size + 1 < w1.heap.size := by omega
  have X1 := Lib.hid k1
  have X2 := Lib.hid k2
  have HB1 := Lib.hid hB1
  clear k0 k1 k2 hB1
  cases q
  · go_upto_region 35 with fail
    refine wp_region_lit ?_
    refine wpList_build_to rfl 24 _ rfl (regs rz) (by kernel_rfl) ?_
    refine wpList_store_row rfl 24 _ _ rfl (w.heap.size + 1) (regs rz) rfl rfl 24 (regs rz) (by exact bk_alloc X1.out _) (by kernel_rfl) rfl (by kernel_rfl) ?_
    go_wp2
    refine bodyPost_ret (res_ct rfl _ _ (w.heap.size + 1) 24 (regs rz) (0, 0) _ rfl (setRow_heap _ _ _ _ _ _ (by exact bk_alloc X1.out _)) Try.underlying24 rfl (by kernel_rfl)) rfl ?_
    exact ⟨⟨fun h => absurd h (of_decide_eq_false HQ.out), fun _ => rfl⟩, below_row (HB1.out.alloc HB1.out.size _) (by omega) _⟩
  · go_upto_region 36 with fail
    refine wp_region_lit ?_
    refine wpList_load_row rfl 24 _ rfl (w.heap.size + 1 + 1) rfl 24 #[.int .u32 10, .int .u32 A, .int .u32 C, .int .u32 0, .int .u32 0, .int .u32 0, .int .u32 0, .int .u32 0] (0, 0) _ (by exact bk_alloc X2.out _) Try.underlying24 rfl (by kernel_rfl) ?_
    refine wpList_store_row rfl 24 _ _ rfl (w.heap.size + 1) #[.int .u32 10, .int .u32 A, .int .u32 C, .int .u32 0, .int .u32 0, .int .u32 0, .int .u32 0, .int .u32 0] rfl rfl 24 (regs rz) (by exact bk_alloc X1.out _) (by kernel_rfl) rfl (by kernel_rfl) ?_
    go_wp2
    refine bodyPost_ret (res_ct rfl _ _ (w.heap.size + 1) 24 #[.int .u32 10, .int .u32 A, .int .u32 C, .int .u32 0, .int .u32 0, .int .u32 0, .int .u32 0, .int .u32 0] (0, 0) _ rfl (setRow_heap _ _ _ _ _ _ (by exact bk_alloc X1.out _)) Try.underlying24 rfl (by kernel_rfl)) rfl ?_
    exact ⟨⟨fun _ => rfl, fun h => absurd (of_decide_eq_true HQ.out) h⟩, below_row (HB1.out.alloc HB1.out.size _) (by omega) _⟩
set_option maxHeartbeats 2000000 in
theorem rput_11_true (A B C : Int) (w : World) (hA : 0 ≤ A ∧ A < 4294967296) (hB : 0 ≤ B ∧ B < 4294967296) (hC : 0 ≤ C ∧ C < 4294967296) :
    Calls Try.prog 14 #[.agg #[.int .i64 11, .int .i64 A, .int .i64 B, .int .u32 C, .bool true]] w fun e w' => ((((A : Int) = A ∧ (B : Int) = B ∧ (C : Int) = C ∧ false = true) → e = .returned (.tuple #[.agg #[.int .u32 11, .int .u32 A, .int .u32 C, .int .u32 B, .int .u32 0, .int .u32 0, .int .u32 0, .int .u32 0], .int .i64 0])) ∧ (¬ ((A : Int) = A ∧ (B : Int) = B ∧ (C : Int) = C ∧ false = true) → e = .returned (.tuple #[.agg (regs rz), .int .i64 2]))) ∧ Below w.heap.size w w' := by
  have fA : fitB A = true := by simp [fitB]; omega
  have fB : fitB B = true := by simp [fitB]; omega
  have sA' : IntKind.u32.wrap A = A := IntWalk.u32_in _ (by omega)
  have sB' : IntKind.u32.wrap B = B := IntWalk.u32_in _ (by omega)
  have hW : Words (rf 11 A C B 0 0 0 0) := words_rf (by omega) (by omega) (by omega) (by omega) (by omega) (by omega) (by omega) (by omega)
  have hc := fun w => rread_l hW w 11 A B C false 0 rfl rfl rfl rfl rfl rfl
  obtain ⟨q, hq⟩ : ∃ q : Bool, decide (((A : Int) = A ∧ (B : Int) = B ∧ (C : Int) = C ∧ false = true)) = q := ⟨_, rfl⟩
  have heq : ∀ w : World, (Op.equalIn 10000 27 (.agg #[.int .i64 11, .int .i64 A, .int .i64 B, .int .u32 C, .bool false]) (.agg #[.int .i64 11, .int .i64 A, .int .i64 B, .int .u32 C, .bool true])).run Try.prog w = .ok q w := by
    intro w
    rw [eq_sys, ← hq]
    congr 1
    apply decide_eq_decide.2
    constructor
    · exact fun h => h.2
    · exact fun h => ⟨rfl, h⟩
  have HQ := Lib.hid hq
  have HC := Lib.hid hc
  clear hq hW hc
  go_enter Try.func14, Try.ntmps14
  go_wp2_with fail
  refine (fits_any _ _).mono ?_; rintro e w' ⟨rfl, rfl⟩
  go_wp2_with fail
  refine (fits_any _ _).mono ?_; rintro e w' ⟨rfl, rfl⟩
  go_wp2_with fail
  go_region
  go_wp2_with fail
  refine (HC.out _).mono ?_; rintro e w1 ⟨rfl, hb⟩
  have k0 : w1.heap[w.heap.size]? = some (.cells #[.int .i64 11, .int .i64 A, .int .i64 B, .int .u32 C, .bool true] 27 (0, 0)) := (hb.block w.heap.size (by go_grown)).trans (bk_alloc (bk_alloc (bk_new w _) _) _)
  have k1 : w1.heap[w.heap.size + 1]? = some (.cells (regs rz) 24 (0, 0)) := by
    have := bk_alloc (bk_new (w.alloc (.cells #[.int .i64 11, .int .i64 A, .int .i64 B, .int .u32 C, .bool true] 27)) (.cells (regs rz) 24 (0, 0))) (.cells #[.int .u32 11, .int .u32 A, .int .u32 C, .int .u32 B, .int .u32 0, .int .u32 0, .int .u32 0, .int .u32 0] 24)
    rw [World.size_alloc] at this
    exact (hb.block (w.heap.size + 1) (by go_grown)).trans this
  have k2 : w1.heap[w.heap.size + 1 + 1]? = some (.cells #[.int .u32 11, .int .u32 A, .int .u32 C, .int .u32 B, .int .u32 0, .int .u32 0, .int .u32 0, .int .u32 0] 24 (0, 0)) := by
    have := bk_new ((w.alloc (.cells #[.int .i64 11, .int .i64 A, .int .i64 B, .int .u32 C, .bool true] 27)).alloc (.cells (regs rz) 24 (0, 0))) (.cells #[.int .u32 11, .int .u32 A, .int .u32 C, .int .u32 B, .int .u32 0, .int .u32 0, .int .u32 0, .int .u32 0] 24)
    rw [World.size_alloc, World.size_alloc] at this
    exact (hb.block (w.heap.size + 1 + 1) (by go_grown)).trans this
  have hB1 : Below w.heap.size w w1 := bstep (by go_grown) hb
  have hz := bk_lt k2
  clear hb
  have c0 : w1.cell? ⟨w.heap.size, 0, none⟩ = some (.int .i64 11) := bk_cell k0 0
  have c1 : w1.cell? ⟨w.heap.size, 1, none⟩ = some (.int .i64 A) := bk_cell k0 1
  have c2 : w1.cell? ⟨w.heap.size, 2, none⟩ = some (.int .i64 B) := bk_cell k0 2
  have c3 : w1.cell? ⟨w.heap.size, 3, none⟩ = some (.int .u32 C) := bk_cell k0 3
  have c4 : w1.cell? ⟨w.heap.size, 4, none⟩ = some (.bool true) := bk_cell k0 4
  have hz0 : w.heap.size < w1.heap.size := by omega
  have hz1 : w.heap.size + 1 < w1.heap.size := by omega
  have X1 := Lib.hid k1
  have X2 := Lib.hid k2
  have HB1 := Lib.hid hB1
  clear k0 k1 k2 hB1
  cases q
  · go_upto_region 35 with fail
    refine wp_region_lit ?_
    refine wpList_build_to rfl 24 _ rfl (regs rz) (by kernel_rfl) ?_
    refine wpList_store_row rfl 24 _ _ rfl (w.heap.size + 1) (regs rz) rfl rfl 24 (regs rz) (by exact bk_alloc X1.out _) (by kernel_rfl) rfl (by kernel_rfl) ?_
    go_wp2
    refine bodyPost_ret (res_ct rfl _ _ (w.heap.size + 1) 24 (regs rz) (0, 0) _ rfl (setRow_heap _ _ _ _ _ _ (by exact bk_alloc X1.out _)) Try.underlying24 rfl (by kernel_rfl)) rfl ?_
    exact ⟨⟨fun h => absurd h (of_decide_eq_false HQ.out), fun _ => rfl⟩, below_row (HB1.out.alloc HB1.out.size _) (by omega) _⟩
  · go_upto_region 36 with fail
    refine wp_region_lit ?_
    refine wpList_load_row rfl 24 _ rfl (w.heap.size + 1 + 1) rfl 24 #[.int .u32 11, .int .u32 A, .int .u32 C, .int .u32 B, .int .u32 0, .int .u32 0, .int .u32 0, .int .u32 0] (0, 0) _ (by exact bk_alloc X2.out _) Try.underlying24 rfl (by kernel_rfl) ?_
    refine wpList_store_row rfl 24 _ _ rfl (w.heap.size + 1) #[.int .u32 11, .int .u32 A, .int .u32 C, .int .u32 B, .int .u32 0, .int .u32 0, .int .u32 0, .int .u32 0] rfl rfl 24 (regs rz) (by exact bk_alloc X1.out _) (by kernel_rfl) rfl (by kernel_rfl) ?_
    go_wp2
    refine bodyPost_ret (res_ct rfl _ _ (w.heap.size + 1) 24 #[.int .u32 11, .int .u32 A, .int .u32 C, .int .u32 B, .int .u32 0, .int .u32 0, .int .u32 0, .int .u32 0] (0, 0) _ rfl (setRow_heap _ _ _ _ _ _ (by exact bk_alloc X1.out _)) Try.underlying24 rfl (by kernel_rfl)) rfl ?_
    exact ⟨⟨fun _ => rfl, fun h => absurd (of_decide_eq_true HQ.out) h⟩, below_row (HB1.out.alloc HB1.out.size _) (by omega) _⟩
set_option maxHeartbeats 2000000 in
theorem rput_11_false (A B C : Int) (w : World) (hA : 0 ≤ A ∧ A < 4294967296) (hB : 0 ≤ B ∧ B < 4294967296) (hC : 0 ≤ C ∧ C < 4294967296) :
    Calls Try.prog 14 #[.agg #[.int .i64 11, .int .i64 A, .int .i64 B, .int .u32 C, .bool false]] w fun e w' => ((((A : Int) = A ∧ (B : Int) = B ∧ (C : Int) = C ∧ false = false) → e = .returned (.tuple #[.agg #[.int .u32 11, .int .u32 A, .int .u32 C, .int .u32 B, .int .u32 0, .int .u32 0, .int .u32 0, .int .u32 0], .int .i64 0])) ∧ (¬ ((A : Int) = A ∧ (B : Int) = B ∧ (C : Int) = C ∧ false = false) → e = .returned (.tuple #[.agg (regs rz), .int .i64 2]))) ∧ Below w.heap.size w w' := by
  have fA : fitB A = true := by simp [fitB]; omega
  have fB : fitB B = true := by simp [fitB]; omega
  have sA' : IntKind.u32.wrap A = A := IntWalk.u32_in _ (by omega)
  have sB' : IntKind.u32.wrap B = B := IntWalk.u32_in _ (by omega)
  have hW : Words (rf 11 A C B 0 0 0 0) := words_rf (by omega) (by omega) (by omega) (by omega) (by omega) (by omega) (by omega) (by omega)
  have hc := fun w => rread_l hW w 11 A B C false 0 rfl rfl rfl rfl rfl rfl
  obtain ⟨q, hq⟩ : ∃ q : Bool, decide (((A : Int) = A ∧ (B : Int) = B ∧ (C : Int) = C ∧ false = false)) = q := ⟨_, rfl⟩
  have heq : ∀ w : World, (Op.equalIn 10000 27 (.agg #[.int .i64 11, .int .i64 A, .int .i64 B, .int .u32 C, .bool false]) (.agg #[.int .i64 11, .int .i64 A, .int .i64 B, .int .u32 C, .bool false])).run Try.prog w = .ok q w := by
    intro w
    rw [eq_sys, ← hq]
    congr 1
    apply decide_eq_decide.2
    constructor
    · exact fun h => h.2
    · exact fun h => ⟨rfl, h⟩
  have HQ := Lib.hid hq
  have HC := Lib.hid hc
  clear hq hW hc
  go_enter Try.func14, Try.ntmps14
  go_wp2_with fail
  refine (fits_any _ _).mono ?_; rintro e w' ⟨rfl, rfl⟩
  go_wp2_with fail
  refine (fits_any _ _).mono ?_; rintro e w' ⟨rfl, rfl⟩
  go_wp2_with fail
  go_region
  go_wp2_with fail
  refine (HC.out _).mono ?_; rintro e w1 ⟨rfl, hb⟩
  have k0 : w1.heap[w.heap.size]? = some (.cells #[.int .i64 11, .int .i64 A, .int .i64 B, .int .u32 C, .bool false] 27 (0, 0)) := (hb.block w.heap.size (by go_grown)).trans (bk_alloc (bk_alloc (bk_new w _) _) _)
  have k1 : w1.heap[w.heap.size + 1]? = some (.cells (regs rz) 24 (0, 0)) := by
    have := bk_alloc (bk_new (w.alloc (.cells #[.int .i64 11, .int .i64 A, .int .i64 B, .int .u32 C, .bool false] 27)) (.cells (regs rz) 24 (0, 0))) (.cells #[.int .u32 11, .int .u32 A, .int .u32 C, .int .u32 B, .int .u32 0, .int .u32 0, .int .u32 0, .int .u32 0] 24)
    rw [World.size_alloc] at this
    exact (hb.block (w.heap.size + 1) (by go_grown)).trans this
  have k2 : w1.heap[w.heap.size + 1 + 1]? = some (.cells #[.int .u32 11, .int .u32 A, .int .u32 C, .int .u32 B, .int .u32 0, .int .u32 0, .int .u32 0, .int .u32 0] 24 (0, 0)) := by
    have := bk_new ((w.alloc (.cells #[.int .i64 11, .int .i64 A, .int .i64 B, .int .u32 C, .bool false] 27)).alloc (.cells (regs rz) 24 (0, 0))) (.cells #[.int .u32 11, .int .u32 A, .int .u32 C, .int .u32 B, .int .u32 0, .int .u32 0, .int .u32 0, .int .u32 0] 24)
    rw [World.size_alloc, World.size_alloc] at this
    exact (hb.block (w.heap.size + 1 + 1) (by go_grown)).trans this
  have hB1 : Below w.heap.size w w1 := bstep (by go_grown) hb
  have hz := bk_lt k2
  clear hb
  have c0 : w1.cell? ⟨w.heap.size, 0, none⟩ = some (.int .i64 11) := bk_cell k0 0
  have c1 : w1.cell? ⟨w.heap.size, 1, none⟩ = some (.int .i64 A) := bk_cell k0 1
  have c2 : w1.cell? ⟨w.heap.size, 2, none⟩ = some (.int .i64 B) := bk_cell k0 2
  have c3 : w1.cell? ⟨w.heap.size, 3, none⟩ = some (.int .u32 C) := bk_cell k0 3
  have c4 : w1.cell? ⟨w.heap.size, 4, none⟩ = some (.bool false) := bk_cell k0 4
  have hz0 : w.heap.size < w1.heap.size := by omega
  have hz1 : w.heap.size + 1 < w1.heap.size := by omega
  have X1 := Lib.hid k1
  have X2 := Lib.hid k2
  have HB1 := Lib.hid hB1
  clear k0 k1 k2 hB1
  cases q
  · go_upto_region 35 with fail
    refine wp_region_lit ?_
    refine wpList_build_to rfl 24 _ rfl (regs rz) (by kernel_rfl) ?_
    refine wpList_store_row rfl 24 _ _ rfl (w.heap.size + 1) (regs rz) rfl rfl 24 (regs rz) (by exact bk_alloc X1.out _) (by kernel_rfl) rfl (by kernel_rfl) ?_
    go_wp2
    refine bodyPost_ret (res_ct rfl _ _ (w.heap.size + 1) 24 (regs rz) (0, 0) _ rfl (setRow_heap _ _ _ _ _ _ (by exact bk_alloc X1.out _)) Try.underlying24 rfl (by kernel_rfl)) rfl ?_
    exact ⟨⟨fun h => absurd h (of_decide_eq_false HQ.out), fun _ => rfl⟩, below_row (HB1.out.alloc HB1.out.size _) (by omega) _⟩
  · go_upto_region 36 with fail
    refine wp_region_lit ?_
    refine wpList_load_row rfl 24 _ rfl (w.heap.size + 1 + 1) rfl 24 #[.int .u32 11, .int .u32 A, .int .u32 C, .int .u32 B, .int .u32 0, .int .u32 0, .int .u32 0, .int .u32 0] (0, 0) _ (by exact bk_alloc X2.out _) Try.underlying24 rfl (by kernel_rfl) ?_
    refine wpList_store_row rfl 24 _ _ rfl (w.heap.size + 1) #[.int .u32 11, .int .u32 A, .int .u32 C, .int .u32 B, .int .u32 0, .int .u32 0, .int .u32 0, .int .u32 0] rfl rfl 24 (regs rz) (by exact bk_alloc X1.out _) (by kernel_rfl) rfl (by kernel_rfl) ?_
    go_wp2
    refine bodyPost_ret (res_ct rfl _ _ (w.heap.size + 1) 24 #[.int .u32 11, .int .u32 A, .int .u32 C, .int .u32 B, .int .u32 0, .int .u32 0, .int .u32 0, .int .u32 0] (0, 0) _ rfl (setRow_heap _ _ _ _ _ _ (by exact bk_alloc X1.out _)) Try.underlying24 rfl (by kernel_rfl)) rfl ?_
    exact ⟨⟨fun _ => rfl, fun h => absurd (of_decide_eq_true HQ.out) h⟩, below_row (HB1.out.alloc HB1.out.size _) (by omega) _⟩
set_option maxHeartbeats 2000000 in
theorem rput_12_true (A B C : Int) (w : World) (hA : 0 ≤ A ∧ A < 4294967296) (hB : 0 ≤ B ∧ B < 4294967296) (hC : 0 ≤ C ∧ C < 4294967296) :
    Calls Try.prog 14 #[.agg #[.int .i64 12, .int .i64 A, .int .i64 B, .int .u32 C, .bool true]] w fun e w' => ((((A : Int) = A ∧ (B : Int) = B ∧ (C : Int) = C ∧ false = true) → e = .returned (.tuple #[.agg #[.int .u32 12, .int .u32 A, .int .u32 C, .int .u32 B, .int .u32 0, .int .u32 0, .int .u32 0, .int .u32 0], .int .i64 0])) ∧ (¬ ((A : Int) = A ∧ (B : Int) = B ∧ (C : Int) = C ∧ false = true) → e = .returned (.tuple #[.agg (regs rz), .int .i64 2]))) ∧ Below w.heap.size w w' := by
  have fA : fitB A = true := by simp [fitB]; omega
  have fB : fitB B = true := by simp [fitB]; omega
  have sA' : IntKind.u32.wrap A = A := IntWalk.u32_in _ (by omega)
  have sB' : IntKind.u32.wrap B = B := IntWalk.u32_in _ (by omega)
  have hW : Words (rf 12 A C B 0 0 0 0) := words_rf (by omega) (by omega) (by omega) (by omega) (by omega) (by omega) (by omega) (by omega)
  have hc := fun w => rread_l hW w 12 A B C false 0 rfl rfl rfl rfl rfl rfl
  obtain ⟨q, hq⟩ : ∃ q : Bool, decide (((A : Int) = A ∧ (B : Int) = B ∧ (C : Int) = C ∧ false = true)) = q := ⟨_, rfl⟩
  have heq : ∀ w : World, (Op.equalIn 10000 27 (.agg #[.int .i64 12, .int .i64 A, .int .i64 B, .int .u32 C, .bool false]) (.agg #[.int .i64 12, .int .i64 A, .int .i64 B, .int .u32 C, .bool true])).run Try.prog w = .ok q w := by
    intro w
    rw [eq_sys, ← hq]
    congr 1
    apply decide_eq_decide.2
    constructor
    · exact fun h => h.2
    · exact fun h => ⟨rfl, h⟩
  have HQ := Lib.hid hq
  have HC := Lib.hid hc
  clear hq hW hc
  go_enter Try.func14, Try.ntmps14
  go_wp2_with fail
  refine (fits_any _ _).mono ?_; rintro e w' ⟨rfl, rfl⟩
  go_wp2_with fail
  refine (fits_any _ _).mono ?_; rintro e w' ⟨rfl, rfl⟩
  go_wp2_with fail
  go_region
  go_wp2_with fail
  refine (HC.out _).mono ?_; rintro e w1 ⟨rfl, hb⟩
  have k0 : w1.heap[w.heap.size]? = some (.cells #[.int .i64 12, .int .i64 A, .int .i64 B, .int .u32 C, .bool true] 27 (0, 0)) := (hb.block w.heap.size (by go_grown)).trans (bk_alloc (bk_alloc (bk_new w _) _) _)
  have k1 : w1.heap[w.heap.size + 1]? = some (.cells (regs rz) 24 (0, 0)) := by
    have := bk_alloc (bk_new (w.alloc (.cells #[.int .i64 12, .int .i64 A, .int .i64 B, .int .u32 C, .bool true] 27)) (.cells (regs rz) 24 (0, 0))) (.cells #[.int .u32 12, .int .u32 A, .int .u32 C, .int .u32 B, .int .u32 0, .int .u32 0, .int .u32 0, .int .u32 0] 24)
    rw [World.size_alloc] at this
    exact (hb.block (w.heap.size + 1) (by go_grown)).trans this
  have k2 : w1.heap[w.heap.size + 1 + 1]? = some (.cells #[.int .u32 12, .int .u32 A, .int .u32 C, .int .u32 B, .int .u32 0, .int .u32 0, .int .u32 0, .int .u32 0] 24 (0, 0)) := by
    have := bk_new ((w.alloc (.cells #[.int .i64 12, .int .i64 A, .int .i64 B, .int .u32 C, .bool true] 27)).alloc (.cells (regs rz) 24 (0, 0))) (.cells #[.int .u32 12, .int .u32 A, .int .u32 C, .int .u32 B, .int .u32 0, .int .u32 0, .int .u32 0, .int .u32 0] 24)
    rw [World.size_alloc, World.size_alloc] at this
    exact (hb.block (w.heap.size + 1 + 1) (by go_grown)).trans this
  have hB1 : Below w.heap.size w w1 := bstep (by go_grown) hb
  have hz := bk_lt k2
  clear hb
  have c0 : w1.cell? ⟨w.heap.size, 0, none⟩ = some (.int .i64 12) := bk_cell k0 0
  have c1 : w1.cell? ⟨w.heap.size, 1, none⟩ = some (.int .i64 A) := bk_cell k0 1
  have c2 : w1.cell? ⟨w.heap.size, 2, none⟩ = some (.int .i64 B) := bk_cell k0 2
  have c3 : w1.cell? ⟨w.heap.size, 3, none⟩ = some (.int .u32 C) := bk_cell k0 3
  have c4 : w1.cell? ⟨w.heap.size, 4, none⟩ = some (.bool true) := bk_cell k0 4
  have hz0 : w.heap.size < w1.heap.size := by omega
  have hz1 : w.heap.size + 1 < w1.heap.size := by omega
  have X1 := Lib.hid k1
  have X2 := Lib.hid k2
  have HB1 := Lib.hid hB1
  clear k0 k1 k2 hB1
  cases q
  · go_upto_region 35 with fail
    refine wp_region_lit ?_
    refine wpList_build_to rfl 24 _ rfl (regs rz) (by kernel_rfl) ?_
    refine wpList_store_row rfl 24 _ _ rfl (w.heap.size + 1) (regs rz) rfl rfl 24 (regs rz) (by exact bk_alloc X1.out _) (by kernel_rfl) rfl (by kernel_rfl) ?_
    go_wp2
    refine bodyPost_ret (res_ct rfl _ _ (w.heap.size + 1) 24 (regs rz) (0, 0) _ rfl (setRow_heap _ _ _ _ _ _ (by exact bk_alloc X1.out _)) Try.underlying24 rfl (by kernel_rfl)) rfl ?_
    exact ⟨⟨fun h => absurd h (of_decide_eq_false HQ.out), fun _ => rfl⟩, below_row (HB1.out.alloc HB1.out.size _) (by omega) _⟩
  · go_upto_region 36 with fail
    refine wp_region_lit ?_
    refine wpList_load_row rfl 24 _ rfl (w.heap.size + 1 + 1) rfl 24 #[.int .u32 12, .int .u32 A, .int .u32 C, .int .u32 B, .int .u32 0, .int .u32 0, .int .u32 0, .int .u32 0] (0, 0) _ (by exact bk_alloc X2.out _) Try.underlying24 rfl (by kernel_rfl) ?_
    refine wpList_store_row rfl 24 _ _ rfl (w.heap.size + 1) #[.int .u32 12, .int .u32 A, .int .u32 C, .int .u32 B, .int .u32 0, .int .u32 0, .int .u32 0, .int .u32 0] rfl rfl 24 (regs rz) (by exact bk_alloc X1.out _) (by kernel_rfl) rfl (by kernel_rfl) ?_
    go_wp2
    refine bodyPost_ret (res_ct rfl _ _ (w.heap.size + 1) 24 #[.int .u32 12, .int .u32 A, .int .u32 C, .int .u32 B, .int .u32 0, .int .u32 0, .int .u32 0, .int .u32 0] (0, 0) _ rfl (setRow_heap _ _ _ _ _ _ (by exact bk_alloc X1.out _)) Try.underlying24 rfl (by kernel_rfl)) rfl ?_
    exact ⟨⟨fun _ => rfl, fun h => absurd (of_decide_eq_true HQ.out) h⟩, below_row (HB1.out.alloc HB1.out.size _) (by omega) _⟩
set_option maxHeartbeats 2000000 in
theorem rput_12_false (A B C : Int) (w : World) (hA : 0 ≤ A ∧ A < 4294967296) (hB : 0 ≤ B ∧ B < 4294967296) (hC : 0 ≤ C ∧ C < 4294967296) :
    Calls Try.prog 14 #[.agg #[.int .i64 12, .int .i64 A, .int .i64 B, .int .u32 C, .bool false]] w fun e w' => ((((A : Int) = A ∧ (B : Int) = B ∧ (C : Int) = C ∧ false = false) → e = .returned (.tuple #[.agg #[.int .u32 12, .int .u32 A, .int .u32 C, .int .u32 B, .int .u32 0, .int .u32 0, .int .u32 0, .int .u32 0], .int .i64 0])) ∧ (¬ ((A : Int) = A ∧ (B : Int) = B ∧ (C : Int) = C ∧ false = false) → e = .returned (.tuple #[.agg (regs rz), .int .i64 2]))) ∧ Below w.heap.size w w' := by
  have fA : fitB A = true := by simp [fitB]; omega
  have fB : fitB B = true := by simp [fitB]; omega
  have sA' : IntKind.u32.wrap A = A := IntWalk.u32_in _ (by omega)
  have sB' : IntKind.u32.wrap B = B := IntWalk.u32_in _ (by omega)
  have hW : Words (rf 12 A C B 0 0 0 0) := words_rf (by omega) (by omega) (by omega) (by omega) (by omega) (by omega) (by omega) (by omega)
  have hc := fun w => rread_l hW w 12 A B C false 0 rfl rfl rfl rfl rfl rfl
  obtain ⟨q, hq⟩ : ∃ q : Bool, decide (((A : Int) = A ∧ (B : Int) = B ∧ (C : Int) = C ∧ false = false)) = q := ⟨_, rfl⟩
  have heq : ∀ w : World, (Op.equalIn 10000 27 (.agg #[.int .i64 12, .int .i64 A, .int .i64 B, .int .u32 C, .bool false]) (.agg #[.int .i64 12, .int .i64 A, .int .i64 B, .int .u32 C, .bool false])).run Try.prog w = .ok q w := by
    intro w
    rw [eq_sys, ← hq]
    congr 1
    apply decide_eq_decide.2
    constructor
    · exact fun h => h.2
    · exact fun h => ⟨rfl, h⟩
  have HQ := Lib.hid hq
  have HC := Lib.hid hc
  clear hq hW hc
  go_enter Try.func14, Try.ntmps14
  go_wp2_with fail
  refine (fits_any _ _).mono ?_; rintro e w' ⟨rfl, rfl⟩
  go_wp2_with fail
  refine (fits_any _ _).mono ?_; rintro e w' ⟨rfl, rfl⟩
  go_wp2_with fail
  go_region
  go_wp2_with fail
  refine (HC.out _).mono ?_; rintro e w1 ⟨rfl, hb⟩
  have k0 : w1.heap[w.heap.size]? = some (.cells #[.int .i64 12, .int .i64 A, .int .i64 B, .int .u32 C, .bool false] 27 (0, 0)) := (hb.block w.heap.size (by go_grown)).trans (bk_alloc (bk_alloc (bk_new w _) _) _)
  have k1 : w1.heap[w.heap.size + 1]? = some (.cells (regs rz) 24 (0, 0)) := by
    have := bk_alloc (bk_new (w.alloc (.cells #[.int .i64 12, .int .i64 A, .int .i64 B, .int .u32 C, .bool false] 27)) (.cells (regs rz) 24 (0, 0))) (.cells #[.int .u32 12, .int .u32 A, .int .u32 C, .int .u32 B, .int .u32 0, .int .u32 0, .int .u32 0, .int .u32 0] 24)
    rw [World.size_alloc] at this
    exact (hb.block (w.heap.size + 1) (by go_grown)).trans this
  have k2 : w1.heap[w.heap.size + 1 + 1]? = some (.cells #[.int .u32 12, .int .u32 A, .int .u32 C, .int .u32 B, .int .u32 0, .int .u32 0, .int .u32 0, .int .u32 0] 24 (0, 0)) := by
    have := bk_new ((w.alloc (.cells #[.int .i64 12, .int .i64 A, .int .i64 B, .int .u32 C, .bool false] 27)).alloc (.cells (regs rz) 24 (0, 0))) (.cells #[.int .u32 12, .int .u32 A, .int .u32 C, .int .u32 B, .int .u32 0, .int .u32 0, .int .u32 0, .int .u32 0] 24)
    rw [World.size_alloc, World.size_alloc] at this
    exact (hb.block (w.heap.size + 1 + 1) (by go_grown)).trans this
  have hB1 : Below w.heap.size w w1 := bstep (by go_grown) hb
  have hz := bk_lt k2
  clear hb
  have c0 : w1.cell? ⟨w.heap.size, 0, none⟩ = some (.int .i64 12) := bk_cell k0 0
  have c1 : w1.cell? ⟨w.heap.size, 1, none⟩ = some (.int .i64 A) := bk_cell k0 1
  have c2 : w1.cell? ⟨w.heap.size, 2, none⟩ = some (.int .i64 B) := bk_cell k0 2
  have c3 : w1.cell? ⟨w.heap.size, 3, none⟩ = some (.int .u32 C) := bk_cell k0 3
  have c4 : w1.cell? ⟨w.heap.size, 4, none⟩ = some (.bool false) := bk_cell k0 4
  have hz0 : w.heap.size < w1.heap.size := by omega
  have hz1 : w.heap.size + 1 < w1.heap.size := by omega
  have X1 := Lib.hid k1
  have X2 := Lib.hid k2
  have HB1 := Lib.hid hB1
  clear k0 k1 k2 hB1
  cases q
  · go_upto_region 35 with fail
    refine wp_region_lit ?_
    refine wpList_build_to rfl 24 _ rfl (regs rz) (by kernel_rfl) ?_
    refine wpList_store_row rfl 24 _ _ rfl (w.heap.size + 1) (regs rz) rfl rfl 24 (regs rz) (by exact bk_alloc X1.out _) (by kernel_rfl) rfl (by kernel_rfl) ?_
    go_wp2
    refine bodyPost_ret (res_ct rfl _ _ (w.heap.size + 1) 24 (regs rz) (0, 0) _ rfl (setRow_heap _ _ _ _ _ _ (by exact bk_alloc X1.out _)) Try.underlying24 rfl (by kernel_rfl)) rfl ?_
    exact ⟨⟨fun h => absurd h (of_decide_eq_false HQ.out), fun _ => rfl⟩, below_row (HB1.out.alloc HB1.out.size _) (by omega) _⟩
  · go_upto_region 36 with fail
    refine wp_region_lit ?_
    refine wpList_load_row rfl 24 _ rfl (w.heap.size + 1 + 1) rfl 24 #[.int .u32 12, .int .u32 A, .int .u32 C, .int .u32 B, .int .u32 0, .int .u32 0, .int .u32 0, .int .u32 0] (0, 0) _ (by exact bk_alloc X2.out _) Try.underlying24 rfl (by kernel_rfl) ?_
    refine wpList_store_row rfl 24 _ _ rfl (w.heap.size + 1) #[.int .u32 12, .int .u32 A, .int .u32 C, .int .u32 B, .int .u32 0, .int .u32 0, .int .u32 0, .int .u32 0] rfl rfl 24 (regs rz) (by exact bk_alloc X1.out _) (by kernel_rfl) rfl (by kernel_rfl) ?_
    go_wp2
    refine bodyPost_ret (res_ct rfl _ _ (w.heap.size + 1) 24 #[.int .u32 12, .int .u32 A, .int .u32 C, .int .u32 B, .int .u32 0, .int .u32 0, .int .u32 0, .int .u32 0] (0, 0) _ rfl (setRow_heap _ _ _ _ _ _ (by exact bk_alloc X1.out _)) Try.underlying24 rfl (by kernel_rfl)) rfl ?_
    exact ⟨⟨fun _ => rfl, fun h => absurd (of_decide_eq_true HQ.out) h⟩, below_row (HB1.out.alloc HB1.out.size _) (by omega) _⟩
end Go.Proofs.Ytnhffghppjlbaaa
