/- call.Put. -/
import Derived.Test.YtnhffghppjlbaaaSpec
namespace Go.Proofs.Ytnhffghppjlbaaa
open Go.RowKit
set_option linter.unusedVariables false
set_option linter.unusedSimpArgs false
/-- a register written -/
def upd (r : Nat → Int) (t : Nat) (n : Int) : Nat → Int := fun i => if i = t then n else r i
def st (r : Nat → Int) (t : Nat) (n : Int) : Nat → Int := if t = 0 then r else upd r t n
def rz : Nat → Int := fun _ => 0
def Fit (t : Nat) (n : Int) : Prop := (0 ≤ n ∧ n < 4294967296) ∧ (t = 0 → n = 0)
/-- what stands in the registers behind k fields -/
def rk (ta tb tc : Nat) (A B C : Int) : Nat → Nat → Int
  | 0 => rz
  | 1 => st rz ta A
  | 2 => st (st rz ta A) tb B
  | _ => st (st (st rz ta A) tb B) tc C
def FitTo (ta tb tc : Nat) (A B C : Int) (k : Nat) : Prop := (0 < k → Fit ta A) ∧ (1 < k → Fit tb B) ∧ (2 < k → Fit tc C)
def OkPut (ta tb tc tw : Nat) (A B C : Int) (W : Bool) : Prop := (Fit ta A ∧ Fit tb B ∧ Fit tc C) ∧ (W = true → tw ≠ 0)
theorem regs_set (r : Nat → Int) (t : Nat) (n : Int) (h : t < 8) : (regs r).setIfInBounds t (.int .u32 n) = regs (upd r t n) := by
  match t, h with
  | 0, _ => rfl
  | 1, _ => rfl
  | 2, _ => rfl
  | 3, _ => rfl
  | 4, _ => rfl
  | 5, _ => rfl
  | 6, _ => rfl
  | 7, _ => rfl
open Classical in
/-- what Put answers at a call of the table -/
noncomputable def pE (ta tb tc tw : Nat) (A B C : Int) (W : Bool) : Int := if OkPut ta tb tc tw A B C W then 0 else 2
open Classical in
noncomputable def pR (k ta tb tc tw : Nat) (A B C : Int) (W : Bool) : Nat → Int :=
  if OkPut ta tb tc tw A B C W then upd (if W = true then upd (rk ta tb tc A B C 3) tw 1 else rk ta tb tc A B C 3) 0 k else rz
theorem pE_bad {ta tb tc tw : Nat} {A B C : Int} {W : Bool} (h : ¬ OkPut ta tb tc tw A B C W) : pE ta tb tc tw A B C W = 2 := if_neg h
theorem pE_ok {ta tb tc tw : Nat} {A B C : Int} {W : Bool} (h : OkPut ta tb tc tw A B C W) : pE ta tb tc tw A B C W = 0 := if_pos h
theorem pR_bad {k ta tb tc tw : Nat} {A B C : Int} {W : Bool} (h : ¬ OkPut ta tb tc tw A B C W) : pR k ta tb tc tw A B C W = rz := if_neg h
theorem pR_ok {k ta tb tc tw : Nat} {A B C : Int} (h : OkPut ta tb tc tw A B C true) : pR k ta tb tc tw A B C true = upd (upd (rk ta tb tc A B C 3) tw 1) 0 k := if_pos h
theorem pR_ok0 {k ta tb tc tw : Nat} {A B C : Int} (h : OkPut ta tb tc tw A B C false) : pR k ta tb tc tw A B C false = upd (rk ta tb tc A B C 3) 0 k := if_pos h
set_option maxHeartbeats 2000000 in
theorem put_none (n A B C : Int) (W : Bool) (w : World) (hn : n < 0 ∨ 13 ≤ n) :
    Calls Try.prog 13 #[.agg #[.int .i64 n, .int .i64 A, .int .i64 B, .int .u32 C, .bool W]] w fun e w' => e = .returned (.tuple #[.agg (regs rz), .int .i64 10]) ∧ Below w.heap.size w w' := by
  go_enter Try.func13, Try.ntmps13
  go_wp2_with fail
  refine (table_any _).mono ?_
  rintro e w1 ⟨rfl, hb1⟩
  have K0 : w1.heap[w.heap.size]? = some (.cells #[.int .i64 n, .int .i64 A, .int .i64 B, .int .u32 C, .bool W] 27 (0, 0)) := bk_below (bk_alloc (bk_alloc (bk_new w _) _) _) hb1
  have K1 : w1.heap[w.heap.size + 1]? = some (.cells (regs rz) 24 (0, 0)) := by
    have := bk_below (bk_alloc (bk_new (w.alloc _) _) _) hb1
    rw [World.size_alloc] at this
    exact this
  have K2 : w1.heap[w.heap.size + 1 + 1]? = some (.cells (regs rz) 24 (0, 0)) := by
    have := bk_below (bk_new ((w.alloc _).alloc _) _) hb1
    rw [World.size_alloc, World.size_alloc] at this
    exact this
  have hB1 : Below w.heap.size w w1 := bstep (by go_grown) hb1
  clear hb1
  have c0 : w1.cell? ⟨w.heap.size, 0, none⟩ = some (.int .i64 n) := (bk_cell K0 0).trans rfl
  have hz0 : w.heap.size < w1.heap.size := bk_lt K0
  go_upto_region 3 with (refine wpList_alloc_store rfl rfl 42 rfl _ _ rfl tblC (by kernel_rfl) tbl_size (by kernel_rfl) (by kernel_rfl) tbl_one ?_)
  rcases hn with hn | hn
  · have hd : decide (n < 0) = true := by simp; omega
    go_upto_region 4 with fail
    refine wp_region_lit ?_
    refine wpList_load_row rfl 24 _ rfl (w.heap.size + 1 + 1) rfl 24 (regs rz) (0, 0) _ (bk_alloc K2 _) Try.underlying24 rfl (by kernel_rfl) ?_
    refine wpList_store_row rfl 24 _ _ rfl (w.heap.size + 1) (regs rz) rfl rfl 24 _ (bk_alloc K1 _) (by kernel_rfl) rfl (by kernel_rfl) ?_
    go_wp2
    refine bodyPost_ret (res_ct rfl _ _ (w.heap.size + 1) 24 (regs rz) (0, 0) _ rfl (setRow_heap _ _ _ _ _ _ (bk_alloc K1 _)) Try.underlying24 rfl (by kernel_rfl)) rfl ?_
    exact ⟨rfl, below_row (by go_grown) (by omega) _⟩
  · have hd : decide (n < 0) = false := by simp; omega
    have hd2 : decide (n ≥ 13) = true := by simp; omega
    have hd3 : decide (13 ≤ n) = true := by simp; omega
    go_upto_region 4 with fail
    refine wp_region_lit ?_
    refine wpList_load_row rfl 24 _ rfl (w.heap.size + 1 + 1) rfl 24 (regs rz) (0, 0) _ (bk_alloc K2 _) Try.underlying24 rfl (by kernel_rfl) ?_
    refine wpList_store_row rfl 24 _ _ rfl (w.heap.size + 1) (regs rz) rfl rfl 24 _ (bk_alloc K1 _) (by kernel_rfl) rfl (by kernel_rfl) ?_
    go_wp2
    refine bodyPost_ret (res_ct rfl _ _ (w.heap.size + 1) 24 (regs rz) (0, 0) _ rfl (setRow_heap _ _ _ _ _ _ (bk_alloc K1 _)) Try.underlying24 rfl (by kernel_rfl)) rfl ?_
    exact ⟨rfl, below_row (by go_grown) (by omega) _⟩
set_option maxHeartbeats 8000000 in
theorem put_in (k ta tb tc tw : Nat) (A B C : Int) (W : Bool) (w : World) (hk : k < 13)
    (t0 : tblC[k * 4]? = some (.int .i64 ta)) (t1 : tblC[k * 4 + 1]? = some (.int .i64 tb)) (t2 : tblC[k * 4 + 2]? = some (.int .i64 tc)) (t3 : tblC[k * 4 + 3]? = some (.int .i64 tw))
    (ha : ta < 8) (hb : tb < 8) (hc : tc < 8) (hw : tw < 8) (hC : 0 ≤ C ∧ C < 4294967296) :
    Calls Try.prog 13 #[.agg #[.int .i64 k, .int .i64 A, .int .i64 B, .int .u32 C, .bool W]] w fun e w' => e = .returned (.tuple #[.agg (regs (pR k ta tb tc tw A B C W)), .int .i64 (pE ta tb tc tw A B C W)]) ∧ Below w.heap.size w w' := by
  go_enter Try.func13, Try.ntmps13
  go_wp2_with fail
  refine (table_any _).mono ?_
  rintro e w1 ⟨rfl, hb1⟩
  have K0 : w1.heap[w.heap.size]? = some (.cells #[.int .i64 k, .int .i64 A, .int .i64 B, .int .u32 C, .bool W] 27 (0, 0)) := bk_below (bk_alloc (bk_alloc (bk_new w _) _) _) hb1
  have K1 : w1.heap[w.heap.size + 1]? = some (.cells (regs rz) 24 (0, 0)) := by
    have := bk_below (bk_alloc (bk_new (w.alloc _) _) _) hb1
    rw [World.size_alloc] at this
    exact this
  have K2 : w1.heap[w.heap.size + 1 + 1]? = some (.cells (regs rz) 24 (0, 0)) := by
    have := bk_below (bk_new ((w.alloc _).alloc _) _) hb1
    rw [World.size_alloc, World.size_alloc] at this
    exact this
  have hB1 : Below w.heap.size w w1 := bstep (by go_grown) hb1
  clear hb1
  have c0 : w1.cell? ⟨w.heap.size, 0, none⟩ = some (.int .i64 k) := (bk_cell K0 0).trans rfl
  have hz0 : w.heap.size < w1.heap.size := bk_lt K0
  go_upto_region 6 with (refine wpList_alloc_store rfl rfl 42 rfl _ _ rfl tblC (by kernel_rfl) tbl_size (by kernel_rfl) (by kernel_rfl) tbl_one ?_)
  have K3 : ((w1.alloc (.cells tblC 42)).alloc (.cells #[.int .i64 ta, .int .i64 tb, .int .i64 tc, .int .i64 tw] 41)).heap[w1.heap.size + 1]? = some (.cells #[.int .i64 ta, .int .i64 tb, .int .i64 tc, .int .i64 tw] 41 (0, 0)) := by
    have := bk_new (w1.alloc (.cells tblC 42)) (.cells #[.int .i64 ta, .int .i64 tb, .int .i64 tc, .int .i64 tw] 41)
    rwa [World.size_alloc] at this
  refine wp_abs (fun W0 => Below w1.heap.size w1 W0 ∧ W0.heap[w1.heap.size + 1]? = some (.cells #[.int .i64 ta, .int .i64 tb, .int .i64 tc, .int .i64 tw] 41 (0, 0))) ⟨by go_grown, K3⟩ ?_
  clear K3
  rintro W0 ⟨hb0, K3⟩
  have hB0 : Below w.heap.size w W0 := hB1.trans (hb0.mono (by omega))
  have K0' := bk_below K0 hb0
  have K1' := bk_below K1 hb0
  have K2' := bk_below K2 hb0
  have s0 := bk_lt K3
  have s2 := bk_lt K2
  have D0 : W0.cell? ⟨w1.heap.size + 1, 0, none⟩ = some (.int .i64 ta) := (bk_cell K3 0).trans rfl
  have D1 : W0.cell? ⟨w1.heap.size + 1, 1, none⟩ = some (.int .i64 tb) := (bk_cell K3 1).trans rfl
  have D2 : W0.cell? ⟨w1.heap.size + 1, 2, none⟩ = some (.int .i64 tc) := (bk_cell K3 2).trans rfl
  have D3 : W0.cell? ⟨w1.heap.size + 1, 3, none⟩ = some (.int .i64 tw) := (bk_cell K3 3).trans rfl
  have d0 : W0.cell? ⟨w.heap.size, 1, none⟩ = some (.int .i64 A) := (bk_cell K0' 1).trans rfl
  have d1 : W0.cell? ⟨w.heap.size, 2, none⟩ = some (.int .i64 B) := (bk_cell K0' 2).trans rfl
  have d2 : W0.cell? ⟨w.heap.size, 3, none⟩ = some (.int .u32 C) := (bk_cell K0' 3).trans rfl
  have DK0 := Lib.hid ((bk_cell K0' 0).trans rfl : W0.cell? ⟨w.heap.size, 0, none⟩ = some (.int .i64 k))
  have DK4 := Lib.hid ((bk_cell K0' 4).trans rfl : W0.cell? ⟨w.heap.size, 4, none⟩ = some (.bool W))
  have DT3 := Lib.hid D3
  have sC : IntKind.i64.wrap C = C := IntWalk.i64_in _ (by omega)
  clear c0 K0 K1 K2 hb0
  have HK0 := Lib.hid K0'
  have HK1 := Lib.hid K1'
  have HB0 := Lib.hid hB0
  clear hB1 hB0 K0' K1' K3 t0 t1 t2 t3 D3
  have i0 : ∀ w, (Instr.index 46 (.agg #[.int .i64 ta, .int .i64 A, .int .i64 tb, .int .i64 B, .int .i64 tc, .int .i64 C]) (.int .i64 0)).run Try.prog w = .ok (.agg #[.int .i64 ta, .int .i64 A]) w := fun _ => by kernel_rfl
  have i1 : ∀ w, (Instr.index 46 (.agg #[.int .i64 ta, .int .i64 A, .int .i64 tb, .int .i64 B, .int .i64 tc, .int .i64 C]) (.int .i64 1)).run Try.prog w = .ok (.agg #[.int .i64 tb, .int .i64 B]) w := fun _ => by kernel_rfl
  have i2 : ∀ w, (Instr.index 46 (.agg #[.int .i64 ta, .int .i64 A, .int .i64 tb, .int .i64 B, .int .i64 tc, .int .i64 C]) (.int .i64 2)).run Try.prog w = .ok (.agg #[.int .i64 tc, .int .i64 C]) w := fun _ => by kernel_rfl
  go_wp2_with fail
  go_loopw [40] (fun n W' => ∃ j : Nat, j ≤ 3 ∧ n = .int .i64 j ∧ FitTo ta tb tc A B C j ∧ W'.heap[w.heap.size + 1 + 1]? = some (.cells (regs (rk ta tb tc A B C j)) 24 (0, 0)) ∧ Kept (w.heap.size + 1 + 1) W0 W') (fun n _ => 3 - (intOf n).toNat)
  case atStart => exact ⟨0, by omega, rfl, ⟨by omega, by omega, by omega⟩, K2', Kept.refl _ _⟩
  case round =>
    obtain ⟨j, hj, rfl, hfit, hR, hkp⟩ := hrel
    have hz := hkp.size
    have HKP := Lib.hid hkp
    have HR := Lib.hid hR
    have HF := Lib.hid hfit
    have x1 := hkp.blk HK1.out (by omega)
    have X1 := Lib.hid x1
    have y0 := hkp.cell DK0.out (by omega)
    have y4 := hkp.cell DK4.out (by omega)
    have y3 := hkp.cell DT3.out (by omega)
    have hBr : Below w.heap.size w wr := Kept.below HB0.out hkp (by omega) (by omega)
    have HBR := Lib.hid hBr
    clear hfit hkp x1 hBr D0 D1 D2 d0 d1 d2
    rcases (by omega : j = 0 ∨ j = 1 ∨ j = 2 ∨ j = 3) with rfl | rfl | rfl | rfl
    · by_cases hn0 : A < 0
      · have e0 : decide (A < 0) = true := by simpa using hn0
        have hbad : ¬ OkPut ta tb tc tw A B C W := fun h => by have := h.1.1.1; omega
        go_upto_region 10 with fail
        refine wp_region_lit ?_
        refine wpList_build_to rfl 24 _ rfl (regs rz) (by kernel_rfl) ?_
        refine wpList_store_row rfl 24 _ _ rfl (w.heap.size + 1) (regs rz) rfl rfl 24 _ (by exact bk_alloc X1.out _) (by kernel_rfl) rfl (by kernel_rfl) ?_
        go_wp2
        refine bodyPost_ret (res_ct rfl _ _ (w.heap.size + 1) 24 (regs rz) (0, 0) _ rfl (setRow_heap _ _ _ _ _ _ (by exact bk_alloc X1.out _)) Try.underlying24 rfl (by kernel_rfl)) rfl ?_
        rw [pR_bad hbad, pE_bad hbad]
        exact ⟨rfl, below_row (HBR.out.alloc HBR.out.size _) (by omega) _⟩
      have e0 : decide (A < 0) = false := by simpa using hn0
      by_cases hn1 : 4294967295 < A
      · have e1 : decide (A > 4294967295) = true := by simpa using hn1
        have e1' : decide (4294967295 < A) = true := by simpa using hn1
        have hbad : ¬ OkPut ta tb tc tw A B C W := fun h => by have := h.1.1.1; omega
        go_upto_region 10 with fail
        refine wp_region_lit ?_
        refine wpList_build_to rfl 24 _ rfl (regs rz) (by kernel_rfl) ?_
        refine wpList_store_row rfl 24 _ _ rfl (w.heap.size + 1) (regs rz) rfl rfl 24 _ (by exact bk_alloc X1.out _) (by kernel_rfl) rfl (by kernel_rfl) ?_
        go_wp2
        refine bodyPost_ret (res_ct rfl _ _ (w.heap.size + 1) 24 (regs rz) (0, 0) _ rfl (setRow_heap _ _ _ _ _ _ (by exact bk_alloc X1.out _)) Try.underlying24 rfl (by kernel_rfl)) rfl ?_
        rw [pR_bad hbad, pE_bad hbad]
        exact ⟨rfl, below_row (HBR.out.alloc HBR.out.size _) (by omega) _⟩
      have e1 : decide (A > 4294967295) = false := by simpa using hn1
      have e1' : decide (4294967295 < A) = false := by simpa using hn1
      by_cases hz1 : ta = 0
      · have e2 : ((ta : Int) == 0) = true := by simp [hz1]
        by_cases hz2 : A = 0
        · have e3 : (A != 0) = false := by simp [hz2]
          have e4 : decide ((ta : Int) > 0) = false := by simp [hz1]
          have e4' : decide (0 < (ta : Int)) = false := by simp [hz1]
          have hft : Fit ta A := ⟨by omega, fun _ => hz2⟩
          have hst : st (rk ta tb tc A B C 0) ta A = rk ta tb tc A B C 0 := if_pos hz1
          have HST := Lib.hid hst
          have hz3 : ¬ 0 < ta := by omega
          clear hst hz2 hz1
          go_wp2
          refine ⟨⟨1, by omega, by go_num, ⟨fun _ => hft, by omega, by omega⟩, ?_, HKP.out.then_below (Below.alloc (Below.refl _ _) (Nat.le_refl _) _)⟩, by simp [intOf]⟩
          show _ = some (Obj.cells (regs (st (rk ta tb tc A B C 0) ta A)) 24 (0, 0))
          rw [HST.out]
          exact bk_alloc HR.out _
        · have e3 : (A != 0) = true := by simp [hz2]
          have hbad : ¬ OkPut ta tb tc tw A B C W := fun h => hz2 (h.1.1.2 hz1)
          clear hz1 hz2
          go_upto_region 10 with fail
          refine wp_region_lit ?_
          refine wpList_build_to rfl 24 _ rfl (regs rz) (by kernel_rfl) ?_
          refine wpList_store_row rfl 24 _ _ rfl (w.heap.size + 1) (regs rz) rfl rfl 24 _ (by exact bk_alloc X1.out _) (by kernel_rfl) rfl (by kernel_rfl) ?_
          go_wp2
          refine bodyPost_ret (res_ct rfl _ _ (w.heap.size + 1) 24 (regs rz) (0, 0) _ rfl (setRow_heap _ _ _ _ _ _ (by exact bk_alloc X1.out _)) Try.underlying24 rfl (by kernel_rfl)) rfl ?_
          rw [pR_bad hbad, pE_bad hbad]
          exact ⟨rfl, below_row (HBR.out.alloc HBR.out.size _) (by omega) _⟩
      · have e2 : ((ta : Int) == 0) = false := by simp [hz1]
        have e4 : decide ((ta : Int) > 0) = true := by simp; omega
        have e4' : decide (0 < (ta : Int)) = true := by simp; omega
        have hft : Fit ta A := ⟨by omega, fun h => absurd h hz1⟩
        have hst : st (rk ta tb tc A B C 0) ta A = upd (rk ta tb tc A B C 0) ta A := if_neg hz1
        have HST := Lib.hid hst
        clear hst
        have sW : IntKind.u32.wrap A = A := IntWalk.u32_in _ (by omega)
        have cT : wr.cell? ⟨w.heap.size + 1 + 1, ta, none⟩ = some (.int .u32 (rk ta tb tc A B C 0 ta)) := (bk_cell HR.out ta).trans (regs_at _ ta (by omega))
        have cT2 : (wr.alloc (.cells #[.int .i64 ta, .int .i64 A] 45)).cell? ⟨w.heap.size + 1 + 1, ta, none⟩ = some (.int .u32 (rk ta tb tc A B C 0 ta)) := (bk_cell (bk_alloc HR.out _) ta).trans (regs_at _ ta (by omega))
        have fz : wr.frozen? ⟨w.heap.size + 1 + 1, ta, none⟩ = false := bk_frozen HR.out ta
        have fz2 : (wr.alloc (.cells #[.int .i64 ta, .int .i64 A] 45)).frozen? ⟨w.heap.size + 1 + 1, ta, none⟩ = false := bk_frozen (bk_alloc HR.out _) ta
        go_wp2
        refine ⟨⟨1, by omega, by go_num, ⟨fun _ => hft, by omega, by omega⟩, ?_, (HKP.out.then_below (Below.alloc (Below.refl _ _) (Nat.le_refl _) _)).setCell _ _⟩, by simp [intOf]⟩
        show _ = some (Obj.cells (regs (st (rk ta tb tc A B C 0) ta A)) 24 (0, 0))
        rw [HST.out, ← regs_set _ _ _ (by omega)]
        exact bk_set (bk_alloc HR.out _) _ _
    · by_cases hn0 : B < 0
      · have e0 : decide (B < 0) = true := by simpa using hn0
        have hbad : ¬ OkPut ta tb tc tw A B C W := fun h => by have := h.1.2.1.1; omega
        go_upto_region 10 with fail
        refine wp_region_lit ?_
        refine wpList_build_to rfl 24 _ rfl (regs rz) (by kernel_rfl) ?_
        refine wpList_store_row rfl 24 _ _ rfl (w.heap.size + 1) (regs rz) rfl rfl 24 _ (by exact bk_alloc X1.out _) (by kernel_rfl) rfl (by kernel_rfl) ?_
        go_wp2
        refine bodyPost_ret (res_ct rfl _ _ (w.heap.size + 1) 24 (regs rz) (0, 0) _ rfl (setRow_heap _ _ _ _ _ _ (by exact bk_alloc X1.out _)) Try.underlying24 rfl (by kernel_rfl)) rfl ?_
        rw [pR_bad hbad, pE_bad hbad]
        exact ⟨rfl, below_row (HBR.out.alloc HBR.out.size _) (by omega) _⟩
      have e0 : decide (B < 0) = false := by simpa using hn0
      by_cases hn1 : 4294967295 < B
      · have e1 : decide (B > 4294967295) = true := by simpa using hn1
        have e1' : decide (4294967295 < B) = true := by simpa using hn1
        have hbad : ¬ OkPut ta tb tc tw A B C W := fun h => by have := h.1.2.1.1; omega
        go_upto_region 10 with fail
        refine wp_region_lit ?_
        refine wpList_build_to rfl 24 _ rfl (regs rz) (by kernel_rfl) ?_
        refine wpList_store_row rfl 24 _ _ rfl (w.heap.size + 1) (regs rz) rfl rfl 24 _ (by exact bk_alloc X1.out _) (by kernel_rfl) rfl (by kernel_rfl) ?_
        go_wp2
        refine bodyPost_ret (res_ct rfl _ _ (w.heap.size + 1) 24 (regs rz) (0, 0) _ rfl (setRow_heap _ _ _ _ _ _ (by exact bk_alloc X1.out _)) Try.underlying24 rfl (by kernel_rfl)) rfl ?_
        rw [pR_bad hbad, pE_bad hbad]
        exact ⟨rfl, below_row (HBR.out.alloc HBR.out.size _) (by omega) _⟩
      have e1 : decide (B > 4294967295) = false := by simpa using hn1
      have e1' : decide (4294967295 < B) = false := by simpa using hn1
      by_cases hz1 : tb = 0
      · have e2 : ((tb : Int) == 0) = true := by simp [hz1]
        by_cases hz2 : B = 0
        · have e3 : (B != 0) = false := by simp [hz2]
          have e4 : decide ((tb : Int) > 0) = false := by simp [hz1]
          have e4' : decide (0 < (tb : Int)) = false := by simp [hz1]
          have hft : Fit tb B := ⟨by omega, fun _ => hz2⟩
          have hst : st (rk ta tb tc A B C 1) tb B = rk ta tb tc A B C 1 := if_pos hz1
          have HST := Lib.hid hst
          have hz3 : ¬ 0 < tb := by omega
          clear hst hz2 hz1
          go_wp2
          refine ⟨⟨2, by omega, by go_num, ⟨fun _ => HF.out.1 (by omega), fun _ => hft, by omega⟩, ?_, HKP.out.then_below (Below.alloc (Below.refl _ _) (Nat.le_refl _) _)⟩, by simp [intOf]⟩
          show _ = some (Obj.cells (regs (st (rk ta tb tc A B C 1) tb B)) 24 (0, 0))
          rw [HST.out]
          exact bk_alloc HR.out _
        · have e3 : (B != 0) = true := by simp [hz2]
          have hbad : ¬ OkPut ta tb tc tw A B C W := fun h => hz2 (h.1.2.1.2 hz1)
          clear hz1 hz2
          go_upto_region 10 with fail
          refine wp_region_lit ?_
          refine wpList_build_to rfl 24 _ rfl (regs rz) (by kernel_rfl) ?_
          refine wpList_store_row rfl 24 _ _ rfl (w.heap.size + 1) (regs rz) rfl rfl 24 _ (by exact bk_alloc X1.out _) (by kernel_rfl) rfl (by kernel_rfl) ?_
          go_wp2
          refine bodyPost_ret (res_ct rfl _ _ (w.heap.size + 1) 24 (regs rz) (0, 0) _ rfl (setRow_heap _ _ _ _ _ _ (by exact bk_alloc X1.out _)) Try.underlying24 rfl (by kernel_rfl)) rfl ?_
          rw [pR_bad hbad, pE_bad hbad]
          exact ⟨rfl, below_row (HBR.out.alloc HBR.out.size _) (by omega) _⟩
      · have e2 : ((tb : Int) == 0) = false := by simp [hz1]
        have e4 : decide ((tb : Int) > 0) = true := by simp; omega
        have e4' : decide (0 < (tb : Int)) = true := by simp; omega
        have hft : Fit tb B := ⟨by omega, fun h => absurd h hz1⟩
        have hst : st (rk ta tb tc A B C 1) tb B = upd (rk ta tb tc A B C 1) tb B := if_neg hz1
        have HST := Lib.hid hst
        clear hst
        have sW : IntKind.u32.wrap B = B := IntWalk.u32_in _ (by omega)
        have cT : wr.cell? ⟨w.heap.size + 1 + 1, tb, none⟩ = some (.int .u32 (rk ta tb tc A B C 1 tb)) := (bk_cell HR.out tb).trans (regs_at _ tb (by omega))
        have cT2 : (wr.alloc (.cells #[.int .i64 tb, .int .i64 B] 45)).cell? ⟨w.heap.size + 1 + 1, tb, none⟩ = some (.int .u32 (rk ta tb tc A B C 1 tb)) := (bk_cell (bk_alloc HR.out _) tb).trans (regs_at _ tb (by omega))
        have fz : wr.frozen? ⟨w.heap.size + 1 + 1, tb, none⟩ = false := bk_frozen HR.out tb
        have fz2 : (wr.alloc (.cells #[.int .i64 tb, .int .i64 B] 45)).frozen? ⟨w.heap.size + 1 + 1, tb, none⟩ = false := bk_frozen (bk_alloc HR.out _) tb
        go_wp2
        refine ⟨⟨2, by omega, by go_num, ⟨fun _ => HF.out.1 (by omega), fun _ => hft, by omega⟩, ?_, (HKP.out.then_below (Below.alloc (Below.refl _ _) (Nat.le_refl _) _)).setCell _ _⟩, by simp [intOf]⟩
        show _ = some (Obj.cells (regs (st (rk ta tb tc A B C 1) tb B)) 24 (0, 0))
        rw [HST.out, ← regs_set _ _ _ (by omega)]
        exact bk_set (bk_alloc HR.out _) _ _
    · have hn0 : ¬ C < 0 := by omega
      have e0 : decide (C < 0) = false := by simpa using hn0
      have hn1 : ¬ 4294967295 < C := by omega
      have e1 : decide (C > 4294967295) = false := by simpa using hn1
      have e1' : decide (4294967295 < C) = false := by simpa using hn1
      by_cases hz1 : tc = 0
      · have e2 : ((tc : Int) == 0) = true := by simp [hz1]
        by_cases hz2 : C = 0
        · have e3 : (C != 0) = false := by simp [hz2]
          have e4 : decide ((tc : Int) > 0) = false := by simp [hz1]
          have e4' : decide (0 < (tc : Int)) = false := by simp [hz1]
          have hft : Fit tc C := ⟨by omega, fun _ => hz2⟩
          have hst : st (rk ta tb tc A B C 2) tc C = rk ta tb tc A B C 2 := if_pos hz1
          have HST := Lib.hid hst
          have hz3 : ¬ 0 < tc := by omega
          clear hst hz2 hz1
          go_wp2
          refine ⟨⟨3, by omega, by go_num, ⟨fun _ => HF.out.1 (by omega), fun _ => HF.out.2.1 (by omega), fun _ => hft⟩, ?_, HKP.out.then_below (Below.alloc (Below.refl _ _) (Nat.le_refl _) _)⟩, by simp [intOf]⟩
          show _ = some (Obj.cells (regs (st (rk ta tb tc A B C 2) tc C)) 24 (0, 0))
          rw [HST.out]
          exact bk_alloc HR.out _
        · have e3 : (C != 0) = true := by simp [hz2]
          have hbad : ¬ OkPut ta tb tc tw A B C W := fun h => hz2 (h.1.2.2.2 hz1)
          clear hz1 hz2
          go_upto_region 10 with fail
          refine wp_region_lit ?_
          refine wpList_build_to rfl 24 _ rfl (regs rz) (by kernel_rfl) ?_
          refine wpList_store_row rfl 24 _ _ rfl (w.heap.size + 1) (regs rz) rfl rfl 24 _ (by exact bk_alloc X1.out _) (by kernel_rfl) rfl (by kernel_rfl) ?_
          go_wp2
          refine bodyPost_ret (res_ct rfl _ _ (w.heap.size + 1) 24 (regs rz) (0, 0) _ rfl (setRow_heap _ _ _ _ _ _ (by exact bk_alloc X1.out _)) Try.underlying24 rfl (by kernel_rfl)) rfl ?_
          rw [pR_bad hbad, pE_bad hbad]
          exact ⟨rfl, below_row (HBR.out.alloc HBR.out.size _) (by omega) _⟩
      · have e2 : ((tc : Int) == 0) = false := by simp [hz1]
        have e4 : decide ((tc : Int) > 0) = true := by simp; omega
        have e4' : decide (0 < (tc : Int)) = true := by simp; omega
        have hft : Fit tc C := ⟨by omega, fun h => absurd h hz1⟩
        have hst : st (rk ta tb tc A B C 2) tc C = upd (rk ta tb tc A B C 2) tc C := if_neg hz1
        have HST := Lib.hid hst
        clear hst
        have sW : IntKind.u32.wrap C = C := IntWalk.u32_in _ (by omega)
        have cT : wr.cell? ⟨w.heap.size + 1 + 1, tc, none⟩ = some (.int .u32 (rk ta tb tc A B C 2 tc)) := (bk_cell HR.out tc).trans (regs_at _ tc (by omega))
        have cT2 : (wr.alloc (.cells #[.int .i64 tc, .int .i64 C] 45)).cell? ⟨w.heap.size + 1 + 1, tc, none⟩ = some (.int .u32 (rk ta tb tc A B C 2 tc)) := (bk_cell (bk_alloc HR.out _) tc).trans (regs_at _ tc (by omega))
        have fz : wr.frozen? ⟨w.heap.size + 1 + 1, tc, none⟩ = false := bk_frozen HR.out tc
        have fz2 : (wr.alloc (.cells #[.int .i64 tc, .int .i64 C] 45)).frozen? ⟨w.heap.size + 1 + 1, tc, none⟩ = false := bk_frozen (bk_alloc HR.out _) tc
        go_wp2
        refine ⟨⟨3, by omega, by go_num, ⟨fun _ => HF.out.1 (by omega), fun _ => HF.out.2.1 (by omega), fun _ => hft⟩, ?_, (HKP.out.then_below (Below.alloc (Below.refl _ _) (Nat.le_refl _) _)).setCell _ _⟩, by simp [intOf]⟩
        show _ = some (Obj.cells (regs (st (rk ta tb tc A B C 2) tc C)) 24 (0, 0))
        rw [HST.out, ← regs_set _ _ _ (by omega)]
        exact bk_set (bk_alloc HR.out _) _ _
    · have sK : IntKind.u32.wrap (k : Int) = k := IntWalk.u32_in _ (by omega)
      cases W
      · have hok : OkPut ta tb tc tw A B C false := ⟨⟨HF.out.1 (by omega), HF.out.2.1 (by omega), HF.out.2.2 (by omega)⟩, by simp⟩
        have cT : wr.cell? ⟨w.heap.size + 1 + 1, 0, none⟩ = some (.int .u32 (rk ta tb tc A B C 3 0)) := (bk_cell HR.out 0).trans (regs_at _ 0 (by omega))
        have fz : wr.frozen? ⟨w.heap.size + 1 + 1, 0, none⟩ = false := bk_frozen HR.out 0
        have HE := Lib.hid (show (wr.setCell ⟨w.heap.size + 1 + 1, 0, none⟩ (.int .u32 k)).heap[w.heap.size + 1 + 1]? = some (.cells (regs (pR k ta tb tc tw A B C false)) 24 (0, 0)) by
          rw [pR_ok0 hok, ← regs_set _ _ _ (by omega)]; exact bk_set HR.out 0 _)
        have HX := Lib.hid (show (wr.setCell ⟨w.heap.size + 1 + 1, 0, none⟩ (.int .u32 k)).heap[w.heap.size + 1]? = some (.cells (regs rz) 24 (0, 0)) from bk_far X1.out (by simp) _)
        have HBE := Lib.hid (show Below w.heap.size w (wr.setCell ⟨w.heap.size + 1 + 1, 0, none⟩ (.int .u32 k)) from HBR.out.setCell (by simp; omega) _)
        go_upto_region 19 with fail
        refine wp_region_lit ?_
        refine wpList_load_row rfl 24 _ rfl (w.heap.size + 1 + 1) rfl 24 (regs (pR k ta tb tc tw A B C false)) (0, 0) _ (by exact HE.out) Try.underlying24 rfl (by kernel_rfl) ?_
        refine wpList_store_row rfl 24 _ _ rfl (w.heap.size + 1) (regs (pR k ta tb tc tw A B C false)) rfl rfl 24 (regs rz) (by exact HX.out) (by kernel_rfl) rfl (by kernel_rfl) ?_
        go_wp2
        refine bodyPost_ret (res_ct rfl _ _ (w.heap.size + 1) 24 (regs (pR k ta tb tc tw A B C false)) (0, 0) _ rfl (setRow_heap _ _ _ _ _ _ (by exact HX.out)) Try.underlying24 rfl (by kernel_rfl)) rfl ?_
        rw [pE_ok hok]
        exact ⟨rfl, below_row (by exact HBE.out) (by omega) _⟩
      · by_cases ht : tw = 0
        · have e5 : ((tw : Int) == 0) = true := by simp [ht]
          have hbad : ¬ OkPut ta tb tc tw A B C true := fun h => h.2 rfl ht
          clear ht
          go_upto_region 15 with fail
          refine wp_region_lit ?_
          refine wpList_build_to rfl 24 _ rfl (regs rz) (by kernel_rfl) ?_
          refine wpList_store_row rfl 24 _ _ rfl (w.heap.size + 1) (regs rz) rfl rfl 24 _ (by exact X1.out) (by kernel_rfl) rfl (by kernel_rfl) ?_
          go_wp2
          refine bodyPost_ret (res_ct rfl _ _ (w.heap.size + 1) 24 (regs rz) (0, 0) _ rfl (setRow_heap _ _ _ _ _ _ (by exact X1.out)) Try.underlying24 rfl (by kernel_rfl)) rfl ?_
          rw [pR_bad hbad, pE_bad hbad]
          exact ⟨rfl, below_row HBR.out (by omega) _⟩
        · have e5 : ((tw : Int) == 0) = false := by simp [ht]
          have hok : OkPut ta tb tc tw A B C true := ⟨⟨HF.out.1 (by omega), HF.out.2.1 (by omega), HF.out.2.2 (by omega)⟩, fun _ => ht⟩
          have cT : wr.cell? ⟨w.heap.size + 1 + 1, tw, none⟩ = some (.int .u32 (rk ta tb tc A B C 3 tw)) := (bk_cell HR.out tw).trans (regs_at _ tw (by omega))
          have fz : wr.frozen? ⟨w.heap.size + 1 + 1, tw, none⟩ = false := bk_frozen HR.out tw
          have cT0 : wr.cell? ⟨w.heap.size + 1 + 1, 0, none⟩ = some (.int .u32 (rk ta tb tc A B C 3 0)) := (bk_cell HR.out 0).trans (regs_at _ 0 (by omega))
          have fz0 : wr.frozen? ⟨w.heap.size + 1 + 1, 0, none⟩ = false := bk_frozen HR.out 0
          have HE := Lib.hid (show ((wr.setCell ⟨w.heap.size + 1 + 1, tw, none⟩ (.int .u32 1)).setCell ⟨w.heap.size + 1 + 1, 0, none⟩ (.int .u32 k)).heap[w.heap.size + 1 + 1]? = some (.cells (regs (pR k ta tb tc tw A B C true)) 24 (0, 0)) by
            rw [pR_ok hok, ← regs_set _ _ _ (by omega), ← regs_set _ _ _ (by omega)]; exact bk_set (bk_set HR.out tw _) 0 _)
          have HX := Lib.hid (show ((wr.setCell ⟨w.heap.size + 1 + 1, tw, none⟩ (.int .u32 1)).setCell ⟨w.heap.size + 1 + 1, 0, none⟩ (.int .u32 k)).heap[w.heap.size + 1]? = some (.cells (regs rz) 24 (0, 0)) from bk_far (bk_far X1.out (by simp) _) (by simp) _)
          have HBE := Lib.hid (show Below w.heap.size w ((wr.setCell ⟨w.heap.size + 1 + 1, tw, none⟩ (.int .u32 1)).setCell ⟨w.heap.size + 1 + 1, 0, none⟩ (.int .u32 k)) from (HBR.out.setCell (by simp; omega) _).setCell (by simp; omega) _)
          go_upto_region 19 with fail
          refine wp_region_lit ?_
          refine wpList_load_row rfl 24 _ rfl (w.heap.size + 1 + 1) rfl 24 (regs (pR k ta tb tc tw A B C true)) (0, 0) _ (by exact HE.out) Try.underlying24 rfl (by kernel_rfl) ?_
          refine wpList_store_row rfl 24 _ _ rfl (w.heap.size + 1) (regs (pR k ta tb tc tw A B C true)) rfl rfl 24 (regs rz) (by exact HX.out) (by kernel_rfl) rfl (by kernel_rfl) ?_
          go_wp2
          refine bodyPost_ret (res_ct rfl _ _ (w.heap.size + 1) 24 (regs (pR k ta tb tc tw A B C true)) (0, 0) _ rfl (setRow_heap _ _ _ _ _ _ (by exact HX.out)) Try.underlying24 rfl (by kernel_rfl)) rfl ?_
          rw [pE_ok hok]
          exact ⟨rfl, below_row (by exact HBE.out) (by omega) _⟩
end Go.Proofs.Ytnhffghppjlbaaa
