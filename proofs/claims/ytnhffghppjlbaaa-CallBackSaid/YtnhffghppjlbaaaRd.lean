/- Helper text of this seat (Rd): contracts of functions of the given program and of its references, each told by its theorem. -/
import Derived.Test.YtnhffghppjlbaaaTb
import Derived.Deep.QuietTactic
import Derived.BigQuiet
import Derived.Deep.DeepCutAuto
import Derived.Deep.CutBlock
namespace Go.Proofs.Ytnhffghppjlbaaa
open Go.RowKit
set_option linter.unusedVariables false
set_option linter.unusedSimpArgs false
set_option maxHeartbeats 2000000 in
theorem read_ok (r : Nat → Int) (k ta tb tc tw : Nat) (w : World) (hk : k < 13) (hr0 : r 0 = k)
    (t0 : tblC[k * 4]? = some (.int .i64 ta)) (t1 : tblC[k * 4 + 1]? = some (.int .i64 tb)) (t2 : tblC[k * 4 + 2]? = some (.int .i64 tc)) (t3 : tblC[k * 4 + 3]? = some (.int .i64 tw))
    (ha : ta < 8) (hb : tb < 8) (hc : tc < 8) (hw : tw < 8)
    (h1 : 0 ≤ fl r ta) (g1 : fl r ta < 4294967296) (h2 : 0 ≤ fl r tb) (g2 : fl r tb < 4294967296) (h3 : fl r tw ≤ 1) :
    Calls Try.prog 8 #[.agg (regs r)] w fun e w' => e = .returned (.tuple #[.agg #[.int .i64 k, .int .i64 (fl r ta), .int .i64 (fl r tb), .int .u32 (fl r tc), .bool (fl r tw == 1)], .int .i64 0]) ∧ Below w.heap.size w w' := by
  have hmf : ∀ (fn : Fn) (first cap : Array Value) (w : World), (Instr.makeFunc fn first cap).run Try.prog w = .ok (.func fn first cap) w := fun _ _ _ _ => rfl
  have er : regs r = #[.int .u32 k, .int .u32 (r 1), .int .u32 (r 2), .int .u32 (r 3), .int .u32 (r 4), .int .u32 (r 5), .int .u32 (r 6), .int .u32 (r 7)] := by unfold regs; rw [hr0]
  rw [er]
  have er' := Lib.hid er
  have hr0' := Lib.hid hr0
  clear er hr0
  go_enter Try.func8, Try.ntmps8
  go_wp2_with fail
  refine (table_any _).mono ?_
  rintro e w1 ⟨rfl, hb1⟩
  have K0 : w1.heap[w.heap.size]? = some (.cells #[.int .u32 k, .int .u32 (r 1), .int .u32 (r 2), .int .u32 (r 3), .int .u32 (r 4), .int .u32 (r 5), .int .u32 (r 6), .int .u32 (r 7)] 24 (0, 0)) := bk_below (bk_alloc (bk_new w _) _) hb1
  have K1 : w1.heap[w.heap.size + 1]? = some (.cells #[.int .i64 0, .int .i64 0, .int .i64 0, .int .u32 0, .bool false] 27 (0, 0)) := by
    have := bk_below (bk_new (w.alloc _) _) hb1
    rwa [World.size_alloc] at this
  have hB1 : Below w.heap.size w w1 := bstep (by go_grown) hb1
  clear hb1
  have c0 : w1.cell? ⟨w.heap.size, 0, none⟩ = some (.int .u32 k) := (bk_cell K0 0).trans rfl
  have hz0 : w.heap.size < w1.heap.size := bk_lt K0
  have hz1 : w.heap.size + 1 < w1.heap.size := bk_lt K1
  go_upto_region 5 with (refine wpList_alloc_store rfl rfl 42 rfl _ _ rfl tblC (by kernel_rfl) tbl_size (by kernel_rfl) (by kernel_rfl) tbl_one ?_)
  have K2 : ((w1.alloc (.cells tblC 42)).alloc (.cells #[.int .i64 ta, .int .i64 tb, .int .i64 tc, .int .i64 tw] 41)).heap[w1.heap.size + 1]? = some (.cells #[.int .i64 ta, .int .i64 tb, .int .i64 tc, .int .i64 tw] 41 (0, 0)) := by
    have := bk_new (w1.alloc (.cells tblC 42)) (.cells #[.int .i64 ta, .int .i64 tb, .int .i64 tc, .int .i64 tw] 41)
    rwa [World.size_alloc] at this
  have cr : ∀ t, t < 8 → ((w1.alloc (.cells tblC 42)).alloc (.cells #[.int .i64 ta, .int .i64 tb, .int .i64 tc, .int .i64 tw] 41)).cell? ⟨w.heap.size, t, none⟩ = some (.int .u32 (r t)) := by
    intro t ht
    rw [bk_cell (bk_alloc (bk_alloc K0 _) _) t, ← er'.out]
    exact regs_at r t ht
  have crw := cr tw hw
  clear cr
  go_upto_region 8 with (go_at_call 16; refine (field_any r tw w.heap.size _ hw crw).mono ?_; rintro e w2 ⟨rfl, rfl⟩)
  clear crw
  refine still_tail 23 (by kernel_rfl) (by kernel_rfl) fun W hW => ?_
  have hB_W : Below w.heap.size w W := by rw [hW]; go_grown
  have K0' : W.heap[w.heap.size]? = some (.cells #[.int .u32 k, .int .u32 (r 1), .int .u32 (r 2), .int .u32 (r 3), .int .u32 (r 4), .int .u32 (r 5), .int .u32 (r 6), .int .u32 (r 7)] 24 (0, 0)) := by rw [hW]; exact bk_alloc (bk_alloc K0 _) _
  have K1' : W.heap[w.heap.size + 1]? = some (.cells #[.int .i64 0, .int .i64 0, .int .i64 0, .int .u32 0, .bool false] 27 (0, 0)) := by rw [hW]; exact bk_alloc (bk_alloc K1 _) _
  have K2' : W.heap[w1.heap.size + 1]? = some (.cells #[.int .i64 ta, .int .i64 tb, .int .i64 tc, .int .i64 tw] 41 (0, 0)) := by rw [hW]; exact K2
  clear hW K0 K1 K2 c0 hB1
  have cr : ∀ t, t < 8 → W.cell? ⟨w.heap.size, t, none⟩ = some (.int .u32 (r t)) := by
    intro t ht
    rw [bk_cell K0' t, ← er'.out]
    exact regs_at r t ht
  have ca := cr ta ha
  have cb := cr tb hb
  have cc := cr tc hc
  have cw := cr tw hw
  clear cr
  have C0 : W.cell? ⟨w.heap.size, 0, none⟩ = some (.int .u32 k) := (bk_cell K0' 0).trans rfl
  have D0 : W.cell? ⟨w1.heap.size + 1, 0, none⟩ = some (.int .i64 ta) := (bk_cell K2' 0).trans rfl
  have D1 : W.cell? ⟨w1.heap.size + 1, 1, none⟩ = some (.int .i64 tb) := (bk_cell K2' 1).trans rfl
  have D2 : W.cell? ⟨w1.heap.size + 1, 2, none⟩ = some (.int .i64 tc) := (bk_cell K2' 2).trans rfl
  have D3 : W.cell? ⟨w1.heap.size + 1, 3, none⟩ = some (.int .i64 tw) := (bk_cell K2' 3).trans rfl
  simp only [List.take_succ_cons, List.take_zero, List.drop_succ_cons, List.drop_zero]
  repeat still_step
  still_call (field_any r ta w.heap.size _ ha ca)
  repeat still_step
  still_call (field_any r tb w.heap.size _ hb cb)
  repeat still_step
  still_call (field_any r tc w.heap.size _ hc cc)
  repeat still_step
  still_call (field_any r tw w.heap.size _ hw cw)
  repeat still_step
  refine wpStill_nil ?_
  clear ca cb cc cw C0 D0 D1 D2 D3
  simp only [show IntKind.i64.wrap (k : Int) = k from IntWalk.i64_in _ (by omega), show IntKind.i64.wrap (fl r ta) = fl r ta from IntWalk.i64_in _ (by omega), show IntKind.i64.wrap (fl r tb) = fl r tb from IntWalk.i64_in _ (by omega)]
  refine wpList_store_row rfl 27 _ _ rfl (w.heap.size + 1) _ rfl rfl 27 _ K1' (by kernel_rfl) rfl (by simp [Value.oneCell']) ?_
  go_wp2
  refine bodyPost_ret (res_ct rfl _ _ (w.heap.size + 1) 27 _ (0, 0) _ rfl (setRow_heap _ _ _ _ _ _ K1') Try.underlying27 rfl (by kernel_rfl)) rfl ?_
  exact ⟨rfl, below_row hB_W (by omega) _⟩
set_option maxHeartbeats 2000000 in
theorem read_bad (r : Nat → Int) (k ta tb tc tw : Nat) (w : World) (hk : k < 13) (hr0 : r 0 = k)
    (t0 : tblC[k * 4]? = some (.int .i64 ta)) (t1 : tblC[k * 4 + 1]? = some (.int .i64 tb)) (t2 : tblC[k * 4 + 2]? = some (.int .i64 tc)) (t3 : tblC[k * 4 + 3]? = some (.int .i64 tw))
    (ha : ta < 8) (hb : tb < 8) (hc : tc < 8) (hw : tw < 8)
    (h3 : 1 < fl r tw) :
    Calls Try.prog 8 #[.agg (regs r)] w fun e w' => e = .returned (.tuple #[.agg #[.int .i64 0, .int .i64 0, .int .i64 0, .int .u32 0, .bool false], .int .i64 2]) ∧ Below w.heap.size w w' := by
  have hmf : ∀ (fn : Fn) (first cap : Array Value) (w : World), (Instr.makeFunc fn first cap).run Try.prog w = .ok (.func fn first cap) w := fun _ _ _ _ => rfl
  have er : regs r = #[.int .u32 k, .int .u32 (r 1), .int .u32 (r 2), .int .u32 (r 3), .int .u32 (r 4), .int .u32 (r 5), .int .u32 (r 6), .int .u32 (r 7)] := by unfold regs; rw [hr0]
  rw [er]
  have er' := Lib.hid er
  have hr0' := Lib.hid hr0
  clear er hr0
  go_enter Try.func8, Try.ntmps8
  go_wp2_with fail
  refine (table_any _).mono ?_
  rintro e w1 ⟨rfl, hb1⟩
  have K0 : w1.heap[w.heap.size]? = some (.cells #[.int .u32 k, .int .u32 (r 1), .int .u32 (r 2), .int .u32 (r 3), .int .u32 (r 4), .int .u32 (r 5), .int .u32 (r 6), .int .u32 (r 7)] 24 (0, 0)) := bk_below (bk_alloc (bk_new w _) _) hb1
  have K1 : w1.heap[w.heap.size + 1]? = some (.cells #[.int .i64 0, .int .i64 0, .int .i64 0, .int .u32 0, .bool false] 27 (0, 0)) := by
    have := bk_below (bk_new (w.alloc _) _) hb1
    rwa [World.size_alloc] at this
  have hB1 : Below w.heap.size w w1 := bstep (by go_grown) hb1
  clear hb1
  have c0 : w1.cell? ⟨w.heap.size, 0, none⟩ = some (.int .u32 k) := (bk_cell K0 0).trans rfl
  have hz0 : w.heap.size < w1.heap.size := bk_lt K0
  have hz1 : w.heap.size + 1 < w1.heap.size := bk_lt K1
  go_upto_region 5 with (refine wpList_alloc_store rfl rfl 42 rfl _ _ rfl tblC (by kernel_rfl) tbl_size (by kernel_rfl) (by kernel_rfl) tbl_one ?_)
  have K2 : ((w1.alloc (.cells tblC 42)).alloc (.cells #[.int .i64 ta, .int .i64 tb, .int .i64 tc, .int .i64 tw] 41)).heap[w1.heap.size + 1]? = some (.cells #[.int .i64 ta, .int .i64 tb, .int .i64 tc, .int .i64 tw] 41 (0, 0)) := by
    have := bk_new (w1.alloc (.cells tblC 42)) (.cells #[.int .i64 ta, .int .i64 tb, .int .i64 tc, .int .i64 tw] 41)
    rwa [World.size_alloc] at this
  have cr : ∀ t, t < 8 → ((w1.alloc (.cells tblC 42)).alloc (.cells #[.int .i64 ta, .int .i64 tb, .int .i64 tc, .int .i64 tw] 41)).cell? ⟨w.heap.size, t, none⟩ = some (.int .u32 (r t)) := by
    intro t ht
    rw [bk_cell (bk_alloc (bk_alloc K0 _) _) t, ← er'.out]
    exact regs_at r t ht
  have crw := cr tw hw
  clear cr
  have C10 : w1.cell? ⟨w.heap.size + 1, 0, none⟩ = some (.int .i64 0) := (bk_cell K1 0).trans rfl
  have C11 : w1.cell? ⟨w.heap.size + 1, 1, none⟩ = some (.int .i64 0) := (bk_cell K1 1).trans rfl
  have C12 : w1.cell? ⟨w.heap.size + 1, 2, none⟩ = some (.int .i64 0) := (bk_cell K1 2).trans rfl
  have C13 : w1.cell? ⟨w.heap.size + 1, 3, none⟩ = some (.int .u32 0) := (bk_cell K1 3).trans rfl
  have C14 : w1.cell? ⟨w.heap.size + 1, 4, none⟩ = some (.bool false) := (bk_cell K1 4).trans rfl
  have G10 := bk_frozen K1 0
  have G11 := bk_frozen K1 1
  have G12 := bk_frozen K1 2
  have G13 := bk_frozen K1 3
  have G14 := bk_frozen K1 4
  go_wp2_with (go_at_call 16; refine (field_any r tw w.heap.size _ hw crw).mono ?_; rintro e w2 ⟨rfl, rfl⟩)
  refine bodyPost_ret (by simp [results, Try.results8, go_sem, *]; try rfl) rfl ?_
  exact ⟨rfl, by go_grown⟩
set_option maxHeartbeats 2000000 in
theorem read_none (r : Nat → Int) (k : Nat) (w : World) (hk : ¬ k < 13) (hr0 : r 0 = k) :
    Calls Try.prog 8 #[.agg (regs r)] w fun e w' => e = .returned (.tuple #[.agg #[.int .i64 0, .int .i64 0, .int .i64 0, .int .u32 0, .bool false], .int .i64 10]) ∧ Below w.heap.size w w' := by
  have hmf : ∀ (fn : Fn) (first cap : Array Value) (w : World), (Instr.makeFunc fn first cap).run Try.prog w = .ok (.func fn first cap) w := fun _ _ _ _ => rfl
  have er : regs r = #[.int .u32 k, .int .u32 (r 1), .int .u32 (r 2), .int .u32 (r 3), .int .u32 (r 4), .int .u32 (r 5), .int .u32 (r 6), .int .u32 (r 7)] := by unfold regs; rw [hr0]
  rw [er]
  have er' := Lib.hid er
  have hr0' := Lib.hid hr0
  clear er hr0
  go_enter Try.func8, Try.ntmps8
  go_wp2_with fail
  refine (table_any _).mono ?_
  rintro e w1 ⟨rfl, hb1⟩
  have K0 : w1.heap[w.heap.size]? = some (.cells #[.int .u32 k, .int .u32 (r 1), .int .u32 (r 2), .int .u32 (r 3), .int .u32 (r 4), .int .u32 (r 5), .int .u32 (r 6), .int .u32 (r 7)] 24 (0, 0)) := bk_below (bk_alloc (bk_new w _) _) hb1
  have K1 : w1.heap[w.heap.size + 1]? = some (.cells #[.int .i64 0, .int .i64 0, .int .i64 0, .int .u32 0, .bool false] 27 (0, 0)) := by
    have := bk_below (bk_new (w.alloc _) _) hb1
    rwa [World.size_alloc] at this
  have hB1 : Below w.heap.size w w1 := bstep (by go_grown) hb1
  clear hb1
  have c0 : w1.cell? ⟨w.heap.size, 0, none⟩ = some (.int .u32 k) := (bk_cell K0 0).trans rfl
  have hz0 : w.heap.size < w1.heap.size := bk_lt K0
  have hz1 : w.heap.size + 1 < w1.heap.size := bk_lt K1
  have hk' : ¬ (k : Int) < 13 := by omega
  have C10 : w1.cell? ⟨w.heap.size + 1, 0, none⟩ = some (.int .i64 0) := (bk_cell K1 0).trans rfl
  have C11 : w1.cell? ⟨w.heap.size + 1, 1, none⟩ = some (.int .i64 0) := (bk_cell K1 1).trans rfl
  have C12 : w1.cell? ⟨w.heap.size + 1, 2, none⟩ = some (.int .i64 0) := (bk_cell K1 2).trans rfl
  have C13 : w1.cell? ⟨w.heap.size + 1, 3, none⟩ = some (.int .u32 0) := (bk_cell K1 3).trans rfl
  have C14 : w1.cell? ⟨w.heap.size + 1, 4, none⟩ = some (.bool false) := (bk_cell K1 4).trans rfl
  have G10 := bk_frozen K1 0
  have G11 := bk_frozen K1 1
  have G12 := bk_frozen K1 2
  have G13 := bk_frozen K1 3
  have G14 := bk_frozen K1 4
  go_wp2_with (refine wpList_alloc_store rfl rfl 42 rfl _ _ rfl tblC (by kernel_rfl) tbl_size (by kernel_rfl) (by kernel_rfl) tbl_one ?_)
  refine bodyPost_ret (by simp [results, Try.results8, go_sem, *]; try rfl) rfl ?_
  exact ⟨rfl, by go_grown⟩
end Go.Proofs.Ytnhffghppjlbaaa
