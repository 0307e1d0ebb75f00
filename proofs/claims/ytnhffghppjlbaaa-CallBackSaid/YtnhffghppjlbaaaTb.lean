/- Helper text of this seat (Tb): contracts of functions of the given program and of its references, each told by its theorem. -/
import Derived.Test.YtnhffghppjlbaaaBlk
import Derived.Lib.Hide
import Derived.StillTailTactics
import Derived.Deep.QuietTactic
import Derived.BigQuiet
import Derived.Deep.DeepCutAuto
import Derived.Deep.CutBlock
namespace Go.Proofs.Ytnhffghppjlbaaa
open Go.RowKit
set_option linter.unusedVariables false
set_option linter.unusedSimpArgs false
/-- a field that stands in the register t; 0: in none -/
def fl (r : Nat → Int) (t : Nat) : Int := if t = 0 then 0 else r t
def regs (r : Nat → Int) : Array Value := #[.int .u32 (r 0), .int .u32 (r 1), .int .u32 (r 2), .int .u32 (r 3), .int .u32 (r 4), .int .u32 (r 5), .int .u32 (r 6), .int .u32 (r 7)]
theorem regs_at (r : Nat → Int) (t : Nat) (h : t < 8) : (regs r)[t]? = some (.int .u32 (r t)) := by
  match t, h with
  | 0, _ => rfl
  | 1, _ => rfl
  | 2, _ => rfl
  | 3, _ => rfl
  | 4, _ => rfl
  | 5, _ => rfl
  | 6, _ => rfl
  | 7, _ => rfl
theorem field_any (r : Nat → Int) (t b : Nat) (w : World) (ht : t < 8) (hc : w.cell? ⟨b, t, none⟩ = some (.int .u32 (r t))) :
    Calls Try.prog 16 #[.int .i64 t, .pointer (some ⟨b, 0, none⟩)] w fun e w' => e = .returned (.int .u32 (fl r t)) ∧ w' = w := by
  by_cases h0 : t = 0
  · subst h0
    go_enter Try.func16, Try.ntmps16
    go_wp2
    go_ret
    exact ⟨rfl, rfl⟩
  · have h1 : ((t : Int) == 0) = false := by simp; omega
    have e : fl r t = r t := if_neg h0
    have E := Lib.hid e
    clear e
    go_enter Try.func16, Try.ntmps16
    go_wp2
    go_ret
    exact ⟨by rw [E.out]; rfl, rfl⟩
def tblC : Array Value := #[.int .i64 0, .int .i64 0, .int .i64 0, .int .i64 0, .int .i64 0, .int .i64 0, .int .i64 0, .int .i64 0, .int .i64 0, .int .i64 0, .int .i64 0, .int .i64 0, .int .i64 1, .int .i64 2, .int .i64 0, .int .i64 3, .int .i64 1, .int .i64 2, .int .i64 0, .int .i64 0, .int .i64 1, .int .i64 2, .int .i64 0, .int .i64 3, .int .i64 1, .int .i64 0, .int .i64 0, .int .i64 0, .int .i64 1, .int .i64 0, .int .i64 2, .int .i64 0, .int .i64 0, .int .i64 0, .int .i64 1, .int .i64 0, .int .i64 0, .int .i64 0, .int .i64 0, .int .i64 0, .int .i64 1, .int .i64 0, .int .i64 2, .int .i64 0, .int .i64 1, .int .i64 3, .int .i64 2, .int .i64 0, .int .i64 1, .int .i64 3, .int .i64 2, .int .i64 0]
theorem tbl_size : (Try.prog.info? 42).map (·.size) = some tblC.size := by kernel_rfl
theorem tbl_one : tblC.all (·.oneCell') = true := by kernel_rfl
set_option maxHeartbeats 1000000 in
theorem table_any (w : World) :
    Calls Try.prog 15 #[] w fun e w' => e = .returned (.agg tblC) ∧ Below w.heap.size w w' := by
  go_enter Try.func15, Try.ntmps15
  go_upto_region 1 with (fail)
  refine wp_region_lit ?_
  iterate 9 (refine wpList_build rfl 41 _ rfl (by kernel_rfl) ?_)
  refine wpList_build_to rfl 42 _ rfl tblC (by kernel_rfl) ?_
  refine wpList_store_new rfl 42 _ _ rfl tblC _ _ (by kernel_rfl) (by kernel_rfl) tbl_size (by kernel_rfl) tbl_one ?_
  refine wpList_nil ?_
  go_wp2
  refine bodyPost_ret (results_cell_row rfl _ _ w.heap.size 42 tblC (0, 0) _ (by kernel_rfl) (bk_new w _) Try.underlying42 rfl tbl_size) rfl ?_
  exact ⟨rfl, by go_grown⟩
end Go.Proofs.Ytnhffghppjlbaaa
