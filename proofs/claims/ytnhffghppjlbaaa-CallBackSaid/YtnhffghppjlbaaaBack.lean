/- Helper text of this seat (Back): contracts of functions of the given program and of its references, each told by its theorem. -/
import Derived.Test.YtnhffghppjlbaaaLPut
import Derived.Test.YtnhffghppjlbaaaBackP
namespace Go.Proofs.Ytnhffghppjlbaaa
open Go.RowKit
set_option linter.unusedVariables false
set_option linter.unusedSimpArgs false
theorem read_v {r : Nat → Int} (hr : Words r) (w : World) (n a b c : Int) (x : Bool) (e : Int) (hn : sNo r = n) (ha : sA r = a) (hb : sB r = b) (hc : sC r = c) (hx : sW r = x) (he : sE r = e) :
    Calls Try.prog 8 #[.agg (regs r)] w fun e' w' => e' = .returned (.tuple #[.agg #[.int .i64 n, .int .i64 a, .int .i64 b, .int .u32 c, .bool x], .int .i64 e]) ∧ Below w.heap.size w w' := by
  subst hn ha hb hc hx he
  exact read_any _ hr w
theorem put_v (n A B C : Int) (W : Bool) (w : World) (hC : 0 ≤ C ∧ C < 4294967296) (R : Nat → Int) (E : Int) (hR : putR n A B C W = R) (hE : putE n A B C W = E) :
    Calls Try.prog 13 #[.agg #[.int .i64 n, .int .i64 A, .int .i64 B, .int .u32 C, .bool W]] w fun e w' => e = .returned (.tuple #[.agg (regs R), .int .i64 E]) ∧ Below w.heap.size w w' := by
  subst hR hE
  exact put_any n A B C W w hC
set_option maxRecDepth 20000 in
set_option maxHeartbeats 8000000 in
theorem CallBack_any (n A B C : Int) (X : Bool) (r : Nat → Int) (at_ x : Int) (w : World) (hC : 0 ≤ C ∧ C < 4294967296) (hr : Words r) (hx : 0 ≤ x ∧ x < 4294967296) :
    Calls Try.prog 7 #[.agg #[.int .i64 n, .int .i64 A, .int .i64 B, .int .u32 C, .bool X], .agg (regs r), .int .i64 at_, .int .u32 x] w fun e' w' => e' = .returned (.bool true) ∧ Below w.heap.size w w' := by
  obtain ⟨R, hR⟩ : ∃ R, putR n A B C X = R := ⟨_, rfl⟩
  obtain ⟨E, hE⟩ : ∃ E, putE n A B C X = E := ⟨_, rfl⟩
  have HRW := Lib.hid (show Words R by rw [← hR]; exact putR_words _ _ _ _ _)
  have HRW0 := Lib.hid hr
  have HX := Lib.hid hx
  have H1 := Lib.hid (fun w => put_r n A B C X w hC R E hR hE)
  -- what is read of what was put
  obtain ⟨yn, ya, yb, yc, yx, ye, hy⟩ : ∃ yn ya yb yc yx ye, (sNo R = yn ∧ sA R = ya ∧ sB R = yb ∧ sC R = yc ∧ sW R = yx ∧ sE R = ye) := ⟨_, _, _, _, _, _, rfl, rfl, rfl, rfl, rfl, rfl⟩
  have H2 := Lib.hid (fun w => read_v HRW.out w yn ya yb yc yx ye hy.1 hy.2.1 hy.2.2.1 hy.2.2.2.1 hy.2.2.2.2.1 hy.2.2.2.2.2)
  have HOK := Lib.hid (show (E = 0 ∧ ye = 0 ∧ yn = n ∧ ya = A ∧ yb = B ∧ yc = C ∧ yx = X) ∨ (¬ E = 0 ∧ R = rz) by
    by_cases h0 : E = 0
    · refine .inl ⟨h0, ?_⟩
      obtain ⟨k, rfl, hk, ho⟩ := put_cases (hE.trans h0)
      have hp := put_read hk ho
      rw [hR] at hp
      exact ⟨hy.2.2.2.2.2.symm.trans hp.1, hy.1.symm.trans hp.2.1, hy.2.1.symm.trans hp.2.2.1, hy.2.2.1.symm.trans hp.2.2.2.1, hy.2.2.2.1.symm.trans hp.2.2.2.2.1, hy.2.2.2.2.1.symm.trans hp.2.2.2.2.2⟩
    · exact .inr ⟨h0, hR.symm.trans (putR_bad (fun h => h0 (hE.symm.trans h)))⟩)
  clear hR hE hy hC hr hx
  go_enter Try.func7, Try.ntmps7
  go_wp2_with fail
  refine (H1.out _).mono ?_; rintro e w1 ⟨rfl, hb⟩
  have K0 : w1.heap[w.heap.size]? = some (.cells #[.int .i64 n, .int .i64 A, .int .i64 B, .int .u32 C, .bool X] 27 (0, 0)) := bk_below (bk_alloc (bk_new w _) _) hb
  have K5 : w1.heap[w.heap.size + 1]? = some (.cells (regs r) 24 (0, 0)) := by
    have := bk_below (bk_new (w.alloc _) _) hb
    rw [World.size_alloc] at this
    exact this
  have hB1 : Below w.heap.size w w1 := bstep (by go_grown) hb
  have hz1 := hB1.size
  clear hb
  go_wp2_with fail
  refine (H2.out _).mono ?_; rintro e w2 ⟨rfl, hb⟩
  have K0' := bk_below (bk_alloc K0 (.cells #[.int .u32 (R 0), .int .u32 (R 1), .int .u32 (R 2), .int .u32 (R 3), .int .u32 (R 4), .int .u32 (R 5), .int .u32 (R 6), .int .u32 (R 7)] 24)) hb
  have K5' := bk_below (bk_alloc K5 (.cells #[.int .u32 (R 0), .int .u32 (R 1), .int .u32 (R 2), .int .u32 (R 3), .int .u32 (R 4), .int .u32 (R 5), .int .u32 (R 6), .int .u32 (R 7)] 24)) hb
  have KX := bk_below (bk_new w1 (.cells #[.int .u32 (R 0), .int .u32 (R 1), .int .u32 (R 2), .int .u32 (R 3), .int .u32 (R 4), .int .u32 (R 5), .int .u32 (R 6), .int .u32 (R 7)] 24)) hb
  have hB2 : Below w.heap.size w w2 := bstep (by go_grown) hb
  have hz2 := bk_lt KX
  have hzw2 := hB2.size
  clear hb K0 K5 hB1
  go_upto_region 3 with fail
  have KY : (w2.alloc (.cells #[.int .i64 yn, .int .i64 ya, .int .i64 yb, .int .u32 yc, .bool yx] 27)).heap[w2.heap.size]? = some (.cells #[.int .i64 yn, .int .i64 ya, .int .i64 yb, .int .u32 yc, .bool yx] 27 (0, 0)) := bk_new _ _
  refine wp_abs (fun W3 => W3.heap[w.heap.size]? = some (.cells #[.int .i64 n, .int .i64 A, .int .i64 B, .int .u32 C, .bool X] 27 (0, 0)) ∧ W3.heap[w.heap.size + 1]? = some (.cells (regs r) 24 (0, 0)) ∧ W3.heap[w1.heap.size]? = some (.cells #[.int .u32 (R 0), .int .u32 (R 1), .int .u32 (R 2), .int .u32 (R 3), .int .u32 (R 4), .int .u32 (R 5), .int .u32 (R 6), .int .u32 (R 7)] 24 (0, 0)) ∧ W3.heap[w2.heap.size]? = some (.cells #[.int .i64 yn, .int .i64 ya, .int .i64 yb, .int .u32 yc, .bool yx] 27 (0, 0)) ∧ Below w.heap.size w W3) ⟨bk_alloc K0' _, bk_alloc K5' _, bk_alloc KX _, KY, hB2.alloc hzw2 _⟩ ?_
  clear K0' K5' KX KY hB2
  rintro W3 ⟨K0, K5, KX, KY, hB3⟩
  have HK5 := Lib.hid K5
  have HB3 := Lib.hid hB3
  clear K5 hB3
  go_cut [50] (fun c wx => c = .bool false ∧ wx = W3)
  case first =>
    have s0 : W3.cell? ⟨w.heap.size, 0, none⟩ = some (.int .i64 n) := bk_cell K0 0
    have s1 : W3.cell? ⟨w.heap.size, 1, none⟩ = some (.int .i64 A) := bk_cell K0 1
    have s2 : W3.cell? ⟨w.heap.size, 2, none⟩ = some (.int .i64 B) := bk_cell K0 2
    have s3 : W3.cell? ⟨w.heap.size, 3, none⟩ = some (.int .u32 C) := bk_cell K0 3
    have s4 : W3.cell? ⟨w.heap.size, 4, none⟩ = some (.bool X) := bk_cell K0 4
    rcases HOK.out with ⟨rfl, rfl, rfl, rfl, rfl, rfl, rfl⟩ | ⟨h0, hrz⟩
    · have y0 : W3.cell? ⟨w2.heap.size, 0, none⟩ = some (.int .i64 yn) := bk_cell KY 0
      have y1 : W3.cell? ⟨w2.heap.size, 1, none⟩ = some (.int .i64 ya) := bk_cell KY 1
      have y2 : W3.cell? ⟨w2.heap.size, 2, none⟩ = some (.int .i64 yb) := bk_cell KY 2
      have y3 : W3.cell? ⟨w2.heap.size, 3, none⟩ = some (.int .u32 yc) := bk_cell KY 3
      have y4 : W3.cell? ⟨w2.heap.size, 4, none⟩ = some (.bool yx) := bk_cell KY 4
      go_wp2_with fail
      go_meet
      exact ⟨by simp, rfl⟩
    · have e1 : (E == 0) = false := by simp [h0]
      have e2 : (E != 0) = true := by simp [h0]
      have hq : ∀ i, R i = 0 := fun i => by rw [hrz]; rfl
      have x0 : W3.cell? ⟨w1.heap.size, 0, none⟩ = some (.int .u32 0) := (bk_cell KX 0).trans (by rw [← hq 0]; rfl)
      have x1 : W3.cell? ⟨w1.heap.size, 1, none⟩ = some (.int .u32 0) := (bk_cell KX 1).trans (by rw [← hq 1]; rfl)
      have x2 : W3.cell? ⟨w1.heap.size, 2, none⟩ = some (.int .u32 0) := (bk_cell KX 2).trans (by rw [← hq 2]; rfl)
      have x3 : W3.cell? ⟨w1.heap.size, 3, none⟩ = some (.int .u32 0) := (bk_cell KX 3).trans (by rw [← hq 3]; rfl)
      have x4 : W3.cell? ⟨w1.heap.size, 4, none⟩ = some (.int .u32 0) := (bk_cell KX 4).trans (by rw [← hq 4]; rfl)
      have x5 : W3.cell? ⟨w1.heap.size, 5, none⟩ = some (.int .u32 0) := (bk_cell KX 5).trans (by rw [← hq 5]; rfl)
      have x6 : W3.cell? ⟨w1.heap.size, 6, none⟩ = some (.int .u32 0) := (bk_cell KX 6).trans (by rw [← hq 6]; rfl)
      have x7 : W3.cell? ⟨w1.heap.size, 7, none⟩ = some (.int .u32 0) := (bk_cell KX 7).trans (by rw [← hq 7]; rfl)
      have heq := eq_words 0 0 0 0 0 0 0 0 0 0 0 0 0 0 0 0
      clear h0 hrz hq
      go_wp2_with fail
      go_meet
      exact ⟨by simp, rfl⟩
  case rest =>
    obtain ⟨rfl, rfl⟩ := hcut
    clear HOK K0 KX KY H1 H2 HRW
    by_cases hg : sE r = 0
    · obtain ⟨vn, va, vb, vc, vx, h1, h2, h3, h4, h5⟩ : ∃ vn va vb vc vx, sNo r = vn ∧ sA r = va ∧ sB r = vb ∧ sC r = vc ∧ sW r = vx := ⟨_, _, _, _, _, rfl, rfl, rfl, rfl, rfl⟩
      have h6 := hg
      have hvc : 0 ≤ vc ∧ vc < 4294967296 := by
        rw [← h4, sC, if_pos hg]
        exact fl_word HRW0.out _
      obtain ⟨k, hk0, hk, ho⟩ := read_ok_put HRW0.out hg
      rw [h2, h3, h4, h5] at ho
      have hvn : vn = k := by rw [← h1, sNo, if_pos hg, hk0]
      obtain ⟨R, hR⟩ : ∃ R, putR vn va vb vc vx = R := ⟨_, rfl⟩
      have hp := put_read hk ho
      rw [← hvn, hR] at hp
      have hq := putE_ok hk ho
      rw [← hvn] at hq
      have hR0 : R 0 = r 0 := by
        have := putR_ok hk ho
        rw [← hvn, hR] at this
        rw [this, hk0]
        exact (show upd _ 0 vn 0 = vn from if_pos rfl).trans hvn
      have HP := Lib.hid (fun w => show Calls Try.prog 13 #[.agg #[.int .i64 vn, .int .i64 va, .int .i64 vb, .int .u32 vc, .bool vx]] w fun e w' => e = .returned (.tuple #[.agg #[.int .u32 (r 0), .int .u32 (R 1), .int .u32 (R 2), .int .u32 (R 3), .int .u32 (R 4), .int .u32 (R 5), .int .u32 (R 6), .int .u32 (R 7)], .int .i64 0]) ∧ Below w.heap.size w w' by
        rw [← hR0]
        exact put_r vn va vb vc vx w hvc R 0 hR hq)
      have HRD := Lib.hid (fun w => show Calls Try.prog 8 #[.agg #[.int .u32 (r 0), .int .u32 (R 1), .int .u32 (R 2), .int .u32 (R 3), .int .u32 (R 4), .int .u32 (R 5), .int .u32 (R 6), .int .u32 (R 7)]] w fun e' w' => e' = .returned (.tuple #[.agg #[.int .i64 vn, .int .i64 va, .int .i64 vb, .int .u32 vc, .bool vx], .int .i64 0]) ∧ Below w.heap.size w w' by
        rw [← hR0]
        exact read_v (by rw [← hR]; exact putR_words _ _ _ _ _) w vn va vb vc vx 0 hp.2.1 hp.2.2.1 hp.2.2.2.1 hp.2.2.2.2.1 hp.2.2.2.2.2 hp.1)
      clear hvc hk0 hk ho hR hp hq hR0 hvn hg
      have H1' := Lib.hid h1
      have H2' := Lib.hid h2
      have H3' := Lib.hid h3
      have H4' := Lib.hid h4
      have H5' := Lib.hid h5
      have H6' := Lib.hid h6
      clear h1 h2 h3 h4 h5 h6
      have HR1 := Lib.hid (fun w => read_v HRW0.out w vn va vb vc vx 0 (H1'.out) (H2'.out) (H3'.out) (H4'.out) (H5'.out) (H6'.out))
      go_upto_region 5 with fail
      refine wp_region_lit ?_
      refine wpList_load_row rfl 24 _ rfl (w.heap.size + 1) rfl 24 (regs r) (0, 0) _ (by exact HK5.out) Try.underlying24 rfl (by kernel_rfl) ?_
      go_wp2_with fail
      refine (HR1.out _).mono ?_; rintro e w4 ⟨rfl, hb⟩
      have K54 := bk_below HK5.out hb
      have hB4 : Below w.heap.size w w4 := bstep HB3.out hb
      have hz4 := hB4.size
      have hz5 := bk_lt K54
      clear hb
      have HK54 := Lib.hid K54
      have HB4' := Lib.hid hB4
      clear K54 hB4
      by_cases hat : 4 ≤ at_ ∧ at_ ≤ 7
      · obtain ⟨t, rfl⟩ : ∃ t : Nat, at_ = t := ⟨at_.toNat, by omega⟩
        obtain ⟨t4, t7⟩ := hat
        have d1 : decide ((t : Int) ≥ 4) = true := by simp; omega
        have d1' : decide (4 ≤ (t : Int)) = true := by simp; omega
        have d2 : decide ((t : Int) ≤ 7) = true := by simp; omega
        have cT : w4.cell? ⟨w.heap.size + 1, t, none⟩ = some (.int .u32 (r t)) := (bk_cell HK54.out t).trans (regs_at r t (by omega))
        have cT2 : (w4.alloc (.cells #[.int .i64 vn, .int .i64 va, .int .i64 vb, .int .u32 vc, .bool vx] 27)).cell? ⟨w.heap.size + 1, t, none⟩ = some (.int .u32 (r t)) := (bk_cell (bk_alloc HK54.out _) t).trans (regs_at r t (by omega))
        have fz : w4.frozen? ⟨w.heap.size + 1, t, none⟩ = false := bk_frozen HK54.out t
        have fz2 : (w4.alloc (.cells #[.int .i64 vn, .int .i64 va, .int .i64 vb, .int .u32 vc, .bool vx] 27)).frozen? ⟨w.heap.size + 1, t, none⟩ = false := bk_frozen (bk_alloc HK54.out _) t
        have HR0 := Lib.hid (show upd r t x 0 = r 0 from if_neg (by omega))
        have hru := read_upd HRW0.out (t := t) (n := x) (by omega)
        have HR2 := Lib.hid (fun w => read_v (upd_words (t := t) (n := x) HRW0.out HX.out) w vn va vb vc vx 0 (hru.2.1.trans H1'.out) (hru.2.2.1.trans H2'.out) (hru.2.2.2.1.trans H3'.out) (hru.2.2.2.2.1.trans H4'.out) (hru.2.2.2.2.2.trans H5'.out) (hru.1.trans H6'.out))
        clear hru
        go_upto_region 8 with fail
        refine wp_abs (fun W5 => W5.heap[w.heap.size + 1]? = some (.cells (regs (upd r t x)) 24 (0, 0)) ∧ W5.heap[w4.heap.size]? = some (.cells #[.int .i64 vn, .int .i64 va, .int .i64 vb, .int .u32 vc, .bool vx] 27 (0, 0)) ∧ Below w.heap.size w W5) ⟨?_, ?_, ?_⟩ ?_
        · rw [← regs_set _ _ _ (by omega)]
          exact bk_alloc (bk_set HK54.out t _) _
        · have := bk_new (w4.setCell ⟨w.heap.size + 1, t, none⟩ (.int .u32 x)) (.cells #[.int .i64 vn, .int .i64 va, .int .i64 vb, .int .u32 vc, .bool vx] 27)
          rw [World.size_setCell] at this
          exact this
        · exact (HB4'.out.setCell (by first | omega | (simp; done) | (simp; omega)) _).alloc (by rw [World.size_setCell]; exact hz4) _
        rintro W5 ⟨K5, KA, hB5⟩
        clear cT cT2 fz fz2
        have HK := Lib.hid K5
        have HB4 := Lib.hid hB5
        have HA := Lib.hid KA
        clear K5 hB5 KA
        refine wp_region_lit ?_
        refine wpList_load_row rfl 24 _ rfl (w.heap.size + 1) rfl 24 (regs (upd r t x)) (0, 0) _ (by exact HK.out) Try.underlying24 rfl (by kernel_rfl) ?_
        go_wp2_with fail
        refine (HR2.out _).mono ?_; rintro e w6 ⟨rfl, hb⟩
        have KA6 := bk_below HA.out hb
        have K56 := bk_below HK.out hb
        have hB6 : Below w.heap.size w w6 := bstep HB4.out hb
        have hza := bk_lt KA6
        have hz6 := hB6.size
        clear hb
        have a0w6 : w6.cell? ⟨w4.heap.size, 0, none⟩ = some (.int .i64 vn) := bk_cell KA6 0
        have a1w6 : w6.cell? ⟨w4.heap.size, 1, none⟩ = some (.int .i64 va) := bk_cell KA6 1
        have a2w6 : w6.cell? ⟨w4.heap.size, 2, none⟩ = some (.int .i64 vb) := bk_cell KA6 2
        have a3w6 : w6.cell? ⟨w4.heap.size, 3, none⟩ = some (.int .u32 vc) := bk_cell KA6 3
        have a4w6 : w6.cell? ⟨w4.heap.size, 4, none⟩ = some (.bool vx) := bk_cell KA6 4
        have rw6 : w6.cell? ⟨w.heap.size + 1, 0, none⟩ = some (.int .u32 (r 0)) := (bk_cell K56 0).trans (by first | rfl | (rw [← HR0.out]; rfl))
        have zrw6 : w.heap.size + 1 < w6.heap.size := bk_lt K56
        have HB6 := Lib.hid hB6
        have HKA := Lib.hid KA6
        have HK5 := Lib.hid K56
        clear hB6 KA6 K56
        go_wp2_with fail
        refine (HP.out _).mono ?_; rintro e w7 ⟨rfl, hb⟩
        have KA7 := bk_below (bk_alloc HKA.out _) hb
        have K57 := bk_below (bk_alloc HK5.out _) hb
        have hB7 : Below w.heap.size w w7 := bstep (HB6.out.alloc HB6.out.size _) hb
        have hz7 := hB7.size
        have hza7 := bk_lt KA7
        clear hb
        have HB7 := Lib.hid hB7
        have HKA7 := Lib.hid KA7
        have HK57 := Lib.hid K57
        clear hB7 KA7 K57
        go_wp2_with fail
        refine (HRD.out _).mono ?_; rintro e w8 ⟨rfl, hb⟩
        have KA8 := bk_below (bk_alloc HKA7.out _) hb
        have K58 := bk_below (bk_alloc HK57.out _) hb
        have KZ8 := bk_below (bk_new w7 _) hb
        have hB8 : Below w.heap.size w w8 := bstep (HB7.out.alloc HB7.out.size _) hb
        have hz8 := hB8.size
        have hza8 := bk_lt KA8
        have hzz8 := bk_lt KZ8
        clear hb
        have z0 : w8.cell? ⟨w7.heap.size, 0, none⟩ = some (.int .u32 (r 0)) := bk_cell KZ8 0
        have a0w8 : w8.cell? ⟨w4.heap.size, 0, none⟩ = some (.int .i64 vn) := bk_cell KA8 0
        have a1w8 : w8.cell? ⟨w4.heap.size, 1, none⟩ = some (.int .i64 va) := bk_cell KA8 1
        have a2w8 : w8.cell? ⟨w4.heap.size, 2, none⟩ = some (.int .i64 vb) := bk_cell KA8 2
        have a3w8 : w8.cell? ⟨w4.heap.size, 3, none⟩ = some (.int .u32 vc) := bk_cell KA8 3
        have a4w8 : w8.cell? ⟨w4.heap.size, 4, none⟩ = some (.bool vx) := bk_cell KA8 4
        have rw8 : w8.cell? ⟨w.heap.size + 1, 0, none⟩ = some (.int .u32 (r 0)) := (bk_cell K58 0).trans (by first | rfl | (rw [← HR0.out]; rfl))
        have zrw8 : w.heap.size + 1 < w8.heap.size := bk_lt K58
        have HB8 := Lib.hid hB8
        clear hB8 KA8 K58 KZ8
        go_wp2_with fail
        refine (awake_any _).mono ?_; rintro e w9 ⟨rfl, hb⟩
        go_wp2
        go_returns
        exact ⟨by simp, bstep (by first | exact HB8.out | exact HB8.out.alloc HB8.out.size _ | go_grown) hb⟩
      · have HR2 := HR1
        have HR0 := Lib.hid (show r 0 = r 0 from rfl)
        have c5 : ¬ (4 ≤ at_ ∧ at_ ≤ 7) := hat
        rcases (by omega : at_ < 4 ∨ (4 ≤ at_ ∧ 7 < at_)) with h | ⟨h, h'⟩
        · have d1 : decide (at_ ≥ 4) = false := by simp; omega
          have d1' : decide (4 ≤ at_) = false := by simp; omega
          clear c5 hat
          go_upto_region 8 with fail
          refine wp_abs (fun W5 => W5.heap[w.heap.size + 1]? = some (.cells (regs r) 24 (0, 0)) ∧ W5.heap[w4.heap.size]? = some (.cells #[.int .i64 vn, .int .i64 va, .int .i64 vb, .int .u32 vc, .bool vx] 27 (0, 0)) ∧ Below w.heap.size w W5) ⟨bk_alloc HK54.out _, bk_new w4 _, HB4'.out.alloc hz4 _⟩ ?_
          rintro W5 ⟨K5, KA, hB5⟩
          have HK := Lib.hid K5
          have HB4 := Lib.hid hB5
          have HA := Lib.hid KA
          clear K5 hB5 KA
          refine wp_region_lit ?_
          refine wpList_load_row rfl 24 _ rfl (w.heap.size + 1) rfl 24 (regs (r)) (0, 0) _ (by exact HK.out) Try.underlying24 rfl (by kernel_rfl) ?_
          go_wp2_with fail
          refine (HR2.out _).mono ?_; rintro e w6 ⟨rfl, hb⟩
          have KA6 := bk_below HA.out hb
          have K56 := bk_below HK.out hb
          have hB6 : Below w.heap.size w w6 := bstep HB4.out hb
          have hza := bk_lt KA6
          have hz6 := hB6.size
          clear hb
          have a0w6 : w6.cell? ⟨w4.heap.size, 0, none⟩ = some (.int .i64 vn) := bk_cell KA6 0
          have a1w6 : w6.cell? ⟨w4.heap.size, 1, none⟩ = some (.int .i64 va) := bk_cell KA6 1
          have a2w6 : w6.cell? ⟨w4.heap.size, 2, none⟩ = some (.int .i64 vb) := bk_cell KA6 2
          have a3w6 : w6.cell? ⟨w4.heap.size, 3, none⟩ = some (.int .u32 vc) := bk_cell KA6 3
          have a4w6 : w6.cell? ⟨w4.heap.size, 4, none⟩ = some (.bool vx) := bk_cell KA6 4
          have rw6 : w6.cell? ⟨w.heap.size + 1, 0, none⟩ = some (.int .u32 (r 0)) := (bk_cell K56 0).trans (by first | rfl | (rw [← HR0.out]; rfl))
          have zrw6 : w.heap.size + 1 < w6.heap.size := bk_lt K56
          have HB6 := Lib.hid hB6
          have HKA := Lib.hid KA6
          have HK5 := Lib.hid K56
          clear hB6 KA6 K56
          go_wp2_with fail
          refine (HP.out _).mono ?_; rintro e w7 ⟨rfl, hb⟩
          have KA7 := bk_below (bk_alloc HKA.out _) hb
          have K57 := bk_below (bk_alloc HK5.out _) hb
          have hB7 : Below w.heap.size w w7 := bstep (HB6.out.alloc HB6.out.size _) hb
          have hz7 := hB7.size
          have hza7 := bk_lt KA7
          clear hb
          have HB7 := Lib.hid hB7
          have HKA7 := Lib.hid KA7
          have HK57 := Lib.hid K57
          clear hB7 KA7 K57
          go_wp2_with fail
          refine (HRD.out _).mono ?_; rintro e w8 ⟨rfl, hb⟩
          have KA8 := bk_below (bk_alloc HKA7.out _) hb
          have K58 := bk_below (bk_alloc HK57.out _) hb
          have KZ8 := bk_below (bk_new w7 _) hb
          have hB8 : Below w.heap.size w w8 := bstep (HB7.out.alloc HB7.out.size _) hb
          have hz8 := hB8.size
          have hza8 := bk_lt KA8
          have hzz8 := bk_lt KZ8
          clear hb
          have z0 : w8.cell? ⟨w7.heap.size, 0, none⟩ = some (.int .u32 (r 0)) := bk_cell KZ8 0
          have a0w8 : w8.cell? ⟨w4.heap.size, 0, none⟩ = some (.int .i64 vn) := bk_cell KA8 0
          have a1w8 : w8.cell? ⟨w4.heap.size, 1, none⟩ = some (.int .i64 va) := bk_cell KA8 1
          have a2w8 : w8.cell? ⟨w4.heap.size, 2, none⟩ = some (.int .i64 vb) := bk_cell KA8 2
          have a3w8 : w8.cell? ⟨w4.heap.size, 3, none⟩ = some (.int .u32 vc) := bk_cell KA8 3
          have a4w8 : w8.cell? ⟨w4.heap.size, 4, none⟩ = some (.bool vx) := bk_cell KA8 4
          have rw8 : w8.cell? ⟨w.heap.size + 1, 0, none⟩ = some (.int .u32 (r 0)) := (bk_cell K58 0).trans (by first | rfl | (rw [← HR0.out]; rfl))
          have zrw8 : w.heap.size + 1 < w8.heap.size := bk_lt K58
          have HB8 := Lib.hid hB8
          clear hB8 KA8 K58 KZ8
          go_wp2_with fail
          refine (awake_any _).mono ?_; rintro e w9 ⟨rfl, hb⟩
          go_wp2
          go_returns
          exact ⟨by simp, bstep (by first | exact HB8.out | exact HB8.out.alloc HB8.out.size _ | go_grown) hb⟩
        · have d1 : decide (at_ ≥ 4) = true := by simp; omega
          have d1' : decide (4 ≤ at_) = true := by simp; omega
          have d2 : decide (at_ ≤ 7) = false := by simp; omega
          clear c5 hat
          go_upto_region 8 with fail
          refine wp_abs (fun W5 => W5.heap[w.heap.size + 1]? = some (.cells (regs r) 24 (0, 0)) ∧ W5.heap[w4.heap.size]? = some (.cells #[.int .i64 vn, .int .i64 va, .int .i64 vb, .int .u32 vc, .bool vx] 27 (0, 0)) ∧ Below w.heap.size w W5) ⟨bk_alloc HK54.out _, bk_new w4 _, HB4'.out.alloc hz4 _⟩ ?_
          rintro W5 ⟨K5, KA, hB5⟩
          have HK := Lib.hid K5
          have HB4 := Lib.hid hB5
          have HA := Lib.hid KA
          clear K5 hB5 KA
          refine wp_region_lit ?_
          refine wpList_load_row rfl 24 _ rfl (w.heap.size + 1) rfl 24 (regs (r)) (0, 0) _ (by exact HK.out) Try.underlying24 rfl (by kernel_rfl) ?_
          go_wp2_with fail
          refine (HR2.out _).mono ?_; rintro e w6 ⟨rfl, hb⟩
          have KA6 := bk_below HA.out hb
          have K56 := bk_below HK.out hb
          have hB6 : Below w.heap.size w w6 := bstep HB4.out hb
          have hza := bk_lt KA6
          have hz6 := hB6.size
          clear hb
          have a0w6 : w6.cell? ⟨w4.heap.size, 0, none⟩ = some (.int .i64 vn) := bk_cell KA6 0
          have a1w6 : w6.cell? ⟨w4.heap.size, 1, none⟩ = some (.int .i64 va) := bk_cell KA6 1
          have a2w6 : w6.cell? ⟨w4.heap.size, 2, none⟩ = some (.int .i64 vb) := bk_cell KA6 2
          have a3w6 : w6.cell? ⟨w4.heap.size, 3, none⟩ = some (.int .u32 vc) := bk_cell KA6 3
          have a4w6 : w6.cell? ⟨w4.heap.size, 4, none⟩ = some (.bool vx) := bk_cell KA6 4
          have rw6 : w6.cell? ⟨w.heap.size + 1, 0, none⟩ = some (.int .u32 (r 0)) := (bk_cell K56 0).trans (by first | rfl | (rw [← HR0.out]; rfl))
          have zrw6 : w.heap.size + 1 < w6.heap.size := bk_lt K56
          have HB6 := Lib.hid hB6
          have HKA := Lib.hid KA6
          have HK5 := Lib.hid K56
          clear hB6 KA6 K56
          go_wp2_with fail
          refine (HP.out _).mono ?_; rintro e w7 ⟨rfl, hb⟩
          have KA7 := bk_below (bk_alloc HKA.out _) hb
          have K57 := bk_below (bk_alloc HK5.out _) hb
          have hB7 : Below w.heap.size w w7 := bstep (HB6.out.alloc HB6.out.size _) hb
          have hz7 := hB7.size
          have hza7 := bk_lt KA7
          clear hb
          have HB7 := Lib.hid hB7
          have HKA7 := Lib.hid KA7
          have HK57 := Lib.hid K57
          clear hB7 KA7 K57
          go_wp2_with fail
          refine (HRD.out _).mono ?_; rintro e w8 ⟨rfl, hb⟩
          have KA8 := bk_below (bk_alloc HKA7.out _) hb
          have K58 := bk_below (bk_alloc HK57.out _) hb
          have KZ8 := bk_below (bk_new w7 _) hb
          have hB8 : Below w.heap.size w w8 := bstep (HB7.out.alloc HB7.out.size _) hb
          have hz8 := hB8.size
          have hza8 := bk_lt KA8
          have hzz8 := bk_lt KZ8
          clear hb
          have z0 : w8.cell? ⟨w7.heap.size, 0, none⟩ = some (.int .u32 (r 0)) := bk_cell KZ8 0
          have a0w8 : w8.cell? ⟨w4.heap.size, 0, none⟩ = some (.int .i64 vn) := bk_cell KA8 0
          have a1w8 : w8.cell? ⟨w4.heap.size, 1, none⟩ = some (.int .i64 va) := bk_cell KA8 1
          have a2w8 : w8.cell? ⟨w4.heap.size, 2, none⟩ = some (.int .i64 vb) := bk_cell KA8 2
          have a3w8 : w8.cell? ⟨w4.heap.size, 3, none⟩ = some (.int .u32 vc) := bk_cell KA8 3
          have a4w8 : w8.cell? ⟨w4.heap.size, 4, none⟩ = some (.bool vx) := bk_cell KA8 4
          have rw8 : w8.cell? ⟨w.heap.size + 1, 0, none⟩ = some (.int .u32 (r 0)) := (bk_cell K58 0).trans (by first | rfl | (rw [← HR0.out]; rfl))
          have zrw8 : w.heap.size + 1 < w8.heap.size := bk_lt K58
          have HB8 := Lib.hid hB8
          clear hB8 KA8 K58 KZ8
          go_wp2_with fail
          refine (awake_any _).mono ?_; rintro e w9 ⟨rfl, hb⟩
          go_wp2
          go_returns
          exact ⟨by simp, bstep (by first | exact HB8.out | exact HB8.out.alloc HB8.out.size _ | go_grown) hb⟩
    · obtain ⟨h1, h2, h3, h4, h5⟩ := read_bad0 hg
      by_cases hg2 : 12 < r 0
      · have h6 : sE r = 10 := (sE_ten r).2 hg2
        have g1 : decide (r 0 > 12) = true := by simp; omega
        have g2 : decide (12 < r 0) = true := by simp; omega
        have HR1 := Lib.hid (fun w => read_v HRW0.out w 0 0 0 0 false 10 (h1) (h2) (h3) (h4) (h5) (h6))
        go_upto_region 5 with fail
        refine wp_region_lit ?_
        refine wpList_load_row rfl 24 _ rfl (w.heap.size + 1) rfl 24 (regs r) (0, 0) _ (by exact HK5.out) Try.underlying24 rfl (by kernel_rfl) ?_
        go_wp2_with fail
        refine (HR1.out _).mono ?_; rintro e w4 ⟨rfl, hb⟩
        have K54 := bk_below HK5.out hb
        have hB4 : Below w.heap.size w w4 := bstep HB3.out hb
        have hz4 := hB4.size
        have hz5 := bk_lt K54
        clear hb
        have HK54 := Lib.hid K54
        have HB4' := Lib.hid hB4
        clear K54 hB4
        by_cases hat : 4 ≤ at_ ∧ at_ ≤ 7
        · obtain ⟨t, rfl⟩ : ∃ t : Nat, at_ = t := ⟨at_.toNat, by omega⟩
          obtain ⟨t4, t7⟩ := hat
          have d1 : decide ((t : Int) ≥ 4) = true := by simp; omega
          have d1' : decide (4 ≤ (t : Int)) = true := by simp; omega
          have d2 : decide ((t : Int) ≤ 7) = true := by simp; omega
          have cT : w4.cell? ⟨w.heap.size + 1, t, none⟩ = some (.int .u32 (r t)) := (bk_cell HK54.out t).trans (regs_at r t (by omega))
          have cT2 : (w4.alloc (.cells #[.int .i64 0, .int .i64 0, .int .i64 0, .int .u32 0, .bool false] 27)).cell? ⟨w.heap.size + 1, t, none⟩ = some (.int .u32 (r t)) := (bk_cell (bk_alloc HK54.out _) t).trans (regs_at r t (by omega))
          have fz : w4.frozen? ⟨w.heap.size + 1, t, none⟩ = false := bk_frozen HK54.out t
          have fz2 : (w4.alloc (.cells #[.int .i64 0, .int .i64 0, .int .i64 0, .int .u32 0, .bool false] 27)).frozen? ⟨w.heap.size + 1, t, none⟩ = false := bk_frozen (bk_alloc HK54.out _) t
          have HR0 := Lib.hid (show upd r t x 0 = r 0 from if_neg (by omega))
          have hru := read_upd HRW0.out (t := t) (n := x) (by omega)
          have HR2 := Lib.hid (fun w => read_v (upd_words (t := t) (n := x) HRW0.out HX.out) w 0 0 0 0 false 10 (hru.2.1.trans h1) (hru.2.2.1.trans h2) (hru.2.2.2.1.trans h3) (hru.2.2.2.2.1.trans h4) (hru.2.2.2.2.2.trans h5) (hru.1.trans h6))
          clear hru
          go_upto_region 8 with fail
          refine wp_abs (fun W5 => W5.heap[w.heap.size + 1]? = some (.cells (regs (upd r t x)) 24 (0, 0)) ∧ W5.heap[w4.heap.size]? = some (.cells #[.int .i64 0, .int .i64 0, .int .i64 0, .int .u32 0, .bool false] 27 (0, 0)) ∧ Below w.heap.size w W5) ⟨?_, ?_, ?_⟩ ?_
          · rw [← regs_set _ _ _ (by omega)]
            exact bk_alloc (bk_set HK54.out t _) _
          · have := bk_new (w4.setCell ⟨w.heap.size + 1, t, none⟩ (.int .u32 x)) (.cells #[.int .i64 0, .int .i64 0, .int .i64 0, .int .u32 0, .bool false] 27)
            rw [World.size_setCell] at this
            exact this
          · exact (HB4'.out.setCell (by first | omega | (simp; done) | (simp; omega)) _).alloc (by rw [World.size_setCell]; exact hz4) _
          rintro W5 ⟨K5, KA, hB5⟩
          clear cT cT2 fz fz2
          have HK := Lib.hid K5
          have HB4 := Lib.hid hB5
          have HA := Lib.hid KA
          clear K5 hB5 KA
          refine wp_region_lit ?_
          refine wpList_load_row rfl 24 _ rfl (w.heap.size + 1) rfl 24 (regs (upd r t x)) (0, 0) _ (by exact HK.out) Try.underlying24 rfl (by kernel_rfl) ?_
          go_wp2_with fail
          refine (HR2.out _).mono ?_; rintro e w6 ⟨rfl, hb⟩
          have KA6 := bk_below HA.out hb
          have K56 := bk_below HK.out hb
          have hB6 : Below w.heap.size w w6 := bstep HB4.out hb
          have hza := bk_lt KA6
          have hz6 := hB6.size
          clear hb
          have a0w6 : w6.cell? ⟨w4.heap.size, 0, none⟩ = some (.int .i64 0) := bk_cell KA6 0
          have a1w6 : w6.cell? ⟨w4.heap.size, 1, none⟩ = some (.int .i64 0) := bk_cell KA6 1
          have a2w6 : w6.cell? ⟨w4.heap.size, 2, none⟩ = some (.int .i64 0) := bk_cell KA6 2
          have a3w6 : w6.cell? ⟨w4.heap.size, 3, none⟩ = some (.int .u32 0) := bk_cell KA6 3
          have a4w6 : w6.cell? ⟨w4.heap.size, 4, none⟩ = some (.bool false) := bk_cell KA6 4
          have rw6 : w6.cell? ⟨w.heap.size + 1, 0, none⟩ = some (.int .u32 (r 0)) := (bk_cell K56 0).trans (by first | rfl | (rw [← HR0.out]; rfl))
          have zrw6 : w.heap.size + 1 < w6.heap.size := bk_lt K56
          have HB6 := Lib.hid hB6
          clear hB6 KA6 K56
          go_wp2_with fail
          refine (awake_any _).mono ?_; rintro e w7 ⟨rfl, hb⟩
          go_wp2
          go_returns
          exact ⟨by simp, bstep (by first | exact HB6.out | exact HB6.out.alloc HB6.out.size _ | go_grown) hb⟩
        · have HR2 := HR1
          have HR0 := Lib.hid (show r 0 = r 0 from rfl)
          have c5 : ¬ (4 ≤ at_ ∧ at_ ≤ 7) := hat
          rcases (by omega : at_ < 4 ∨ (4 ≤ at_ ∧ 7 < at_)) with h | ⟨h, h'⟩
          · have d1 : decide (at_ ≥ 4) = false := by simp; omega
            have d1' : decide (4 ≤ at_) = false := by simp; omega
            clear c5 hat
            go_upto_region 8 with fail
            refine wp_abs (fun W5 => W5.heap[w.heap.size + 1]? = some (.cells (regs r) 24 (0, 0)) ∧ W5.heap[w4.heap.size]? = some (.cells #[.int .i64 0, .int .i64 0, .int .i64 0, .int .u32 0, .bool false] 27 (0, 0)) ∧ Below w.heap.size w W5) ⟨bk_alloc HK54.out _, bk_new w4 _, HB4'.out.alloc hz4 _⟩ ?_
            rintro W5 ⟨K5, KA, hB5⟩
            have HK := Lib.hid K5
            have HB4 := Lib.hid hB5
            have HA := Lib.hid KA
            clear K5 hB5 KA
            refine wp_region_lit ?_
            refine wpList_load_row rfl 24 _ rfl (w.heap.size + 1) rfl 24 (regs (r)) (0, 0) _ (by exact HK.out) Try.underlying24 rfl (by kernel_rfl) ?_
            go_wp2_with fail
            refine (HR2.out _).mono ?_; rintro e w6 ⟨rfl, hb⟩
            have KA6 := bk_below HA.out hb
            have K56 := bk_below HK.out hb
            have hB6 : Below w.heap.size w w6 := bstep HB4.out hb
            have hza := bk_lt KA6
            have hz6 := hB6.size
            clear hb
            have a0w6 : w6.cell? ⟨w4.heap.size, 0, none⟩ = some (.int .i64 0) := bk_cell KA6 0
            have a1w6 : w6.cell? ⟨w4.heap.size, 1, none⟩ = some (.int .i64 0) := bk_cell KA6 1
            have a2w6 : w6.cell? ⟨w4.heap.size, 2, none⟩ = some (.int .i64 0) := bk_cell KA6 2
            have a3w6 : w6.cell? ⟨w4.heap.size, 3, none⟩ = some (.int .u32 0) := bk_cell KA6 3
            have a4w6 : w6.cell? ⟨w4.heap.size, 4, none⟩ = some (.bool false) := bk_cell KA6 4
            have rw6 : w6.cell? ⟨w.heap.size + 1, 0, none⟩ = some (.int .u32 (r 0)) := (bk_cell K56 0).trans (by first | rfl | (rw [← HR0.out]; rfl))
            have zrw6 : w.heap.size + 1 < w6.heap.size := bk_lt K56
            have HB6 := Lib.hid hB6
            clear hB6 KA6 K56
            go_wp2_with fail
            refine (awake_any _).mono ?_; rintro e w7 ⟨rfl, hb⟩
            go_wp2
            go_returns
            exact ⟨by simp, bstep (by first | exact HB6.out | exact HB6.out.alloc HB6.out.size _ | go_grown) hb⟩
          · have d1 : decide (at_ ≥ 4) = true := by simp; omega
            have d1' : decide (4 ≤ at_) = true := by simp; omega
            have d2 : decide (at_ ≤ 7) = false := by simp; omega
            clear c5 hat
            go_upto_region 8 with fail
            refine wp_abs (fun W5 => W5.heap[w.heap.size + 1]? = some (.cells (regs r) 24 (0, 0)) ∧ W5.heap[w4.heap.size]? = some (.cells #[.int .i64 0, .int .i64 0, .int .i64 0, .int .u32 0, .bool false] 27 (0, 0)) ∧ Below w.heap.size w W5) ⟨bk_alloc HK54.out _, bk_new w4 _, HB4'.out.alloc hz4 _⟩ ?_
            rintro W5 ⟨K5, KA, hB5⟩
            have HK := Lib.hid K5
            have HB4 := Lib.hid hB5
            have HA := Lib.hid KA
            clear K5 hB5 KA
            refine wp_region_lit ?_
            refine wpList_load_row rfl 24 _ rfl (w.heap.size + 1) rfl 24 (regs (r)) (0, 0) _ (by exact HK.out) Try.underlying24 rfl (by kernel_rfl) ?_
            go_wp2_with fail
            refine (HR2.out _).mono ?_; rintro e w6 ⟨rfl, hb⟩
            have KA6 := bk_below HA.out hb
            have K56 := bk_below HK.out hb
            have hB6 : Below w.heap.size w w6 := bstep HB4.out hb
            have hza := bk_lt KA6
            have hz6 := hB6.size
            clear hb
            have a0w6 : w6.cell? ⟨w4.heap.size, 0, none⟩ = some (.int .i64 0) := bk_cell KA6 0
            have a1w6 : w6.cell? ⟨w4.heap.size, 1, none⟩ = some (.int .i64 0) := bk_cell KA6 1
            have a2w6 : w6.cell? ⟨w4.heap.size, 2, none⟩ = some (.int .i64 0) := bk_cell KA6 2
            have a3w6 : w6.cell? ⟨w4.heap.size, 3, none⟩ = some (.int .u32 0) := bk_cell KA6 3
            have a4w6 : w6.cell? ⟨w4.heap.size, 4, none⟩ = some (.bool false) := bk_cell KA6 4
            have rw6 : w6.cell? ⟨w.heap.size + 1, 0, none⟩ = some (.int .u32 (r 0)) := (bk_cell K56 0).trans (by first | rfl | (rw [← HR0.out]; rfl))
            have zrw6 : w.heap.size + 1 < w6.heap.size := bk_lt K56
            have HB6 := Lib.hid hB6
            clear hB6 KA6 K56
            go_wp2_with fail
            refine (awake_any _).mono ?_; rintro e w7 ⟨rfl, hb⟩
            go_wp2
            go_returns
            exact ⟨by simp, bstep (by first | exact HB6.out | exact HB6.out.alloc HB6.out.size _ | go_grown) hb⟩
      · have h6 : sE r = 2 := by
          have h10 := fun h => hg2 ((sE_ten r).1 h)
          revert hg h10
          unfold sE
          split
          · simp
          · split <;> simp
        have g1 : decide (r 0 > 12) = false := by simp; omega
        have g2 : decide (12 < r 0) = false := by simp; omega
        have HR1 := Lib.hid (fun w => read_v HRW0.out w 0 0 0 0 false 2 (h1) (h2) (h3) (h4) (h5) (h6))
        go_upto_region 5 with fail
        refine wp_region_lit ?_
        refine wpList_load_row rfl 24 _ rfl (w.heap.size + 1) rfl 24 (regs r) (0, 0) _ (by exact HK5.out) Try.underlying24 rfl (by kernel_rfl) ?_
        go_wp2_with fail
        refine (HR1.out _).mono ?_; rintro e w4 ⟨rfl, hb⟩
        have K54 := bk_below HK5.out hb
        have hB4 : Below w.heap.size w w4 := bstep HB3.out hb
        have hz4 := hB4.size
        have hz5 := bk_lt K54
        clear hb
        have HK54 := Lib.hid K54
        have HB4' := Lib.hid hB4
        clear K54 hB4
        by_cases hat : 4 ≤ at_ ∧ at_ ≤ 7
        · obtain ⟨t, rfl⟩ : ∃ t : Nat, at_ = t := ⟨at_.toNat, by omega⟩
          obtain ⟨t4, t7⟩ := hat
          have d1 : decide ((t : Int) ≥ 4) = true := by simp; omega
          have d1' : decide (4 ≤ (t : Int)) = true := by simp; omega
          have d2 : decide ((t : Int) ≤ 7) = true := by simp; omega
          have cT : w4.cell? ⟨w.heap.size + 1, t, none⟩ = some (.int .u32 (r t)) := (bk_cell HK54.out t).trans (regs_at r t (by omega))
          have cT2 : (w4.alloc (.cells #[.int .i64 0, .int .i64 0, .int .i64 0, .int .u32 0, .bool false] 27)).cell? ⟨w.heap.size + 1, t, none⟩ = some (.int .u32 (r t)) := (bk_cell (bk_alloc HK54.out _) t).trans (regs_at r t (by omega))
          have fz : w4.frozen? ⟨w.heap.size + 1, t, none⟩ = false := bk_frozen HK54.out t
          have fz2 : (w4.alloc (.cells #[.int .i64 0, .int .i64 0, .int .i64 0, .int .u32 0, .bool false] 27)).frozen? ⟨w.heap.size + 1, t, none⟩ = false := bk_frozen (bk_alloc HK54.out _) t
          have HR0 := Lib.hid (show upd r t x 0 = r 0 from if_neg (by omega))
          have hru := read_upd HRW0.out (t := t) (n := x) (by omega)
          have HR2 := Lib.hid (fun w => read_v (upd_words (t := t) (n := x) HRW0.out HX.out) w 0 0 0 0 false 2 (hru.2.1.trans h1) (hru.2.2.1.trans h2) (hru.2.2.2.1.trans h3) (hru.2.2.2.2.1.trans h4) (hru.2.2.2.2.2.trans h5) (hru.1.trans h6))
          clear hru
          go_upto_region 8 with fail
          refine wp_abs (fun W5 => W5.heap[w.heap.size + 1]? = some (.cells (regs (upd r t x)) 24 (0, 0)) ∧ W5.heap[w4.heap.size]? = some (.cells #[.int .i64 0, .int .i64 0, .int .i64 0, .int .u32 0, .bool false] 27 (0, 0)) ∧ Below w.heap.size w W5) ⟨?_, ?_, ?_⟩ ?_
          · rw [← regs_set _ _ _ (by omega)]
            exact bk_alloc (bk_set HK54.out t _) _
          · have := bk_new (w4.setCell ⟨w.heap.size + 1, t, none⟩ (.int .u32 x)) (.cells #[.int .i64 0, .int .i64 0, .int .i64 0, .int .u32 0, .bool false] 27)
            rw [World.size_setCell] at this
            exact this
          · exact (HB4'.out.setCell (by first | omega | (simp; done) | (simp; omega)) _).alloc (by rw [World.size_setCell]; exact hz4) _
          rintro W5 ⟨K5, KA, hB5⟩
          clear cT cT2 fz fz2
          have HK := Lib.hid K5
          have HB4 := Lib.hid hB5
          have HA := Lib.hid KA
          clear K5 hB5 KA
          refine wp_region_lit ?_
          refine wpList_load_row rfl 24 _ rfl (w.heap.size + 1) rfl 24 (regs (upd r t x)) (0, 0) _ (by exact HK.out) Try.underlying24 rfl (by kernel_rfl) ?_
          go_wp2_with fail
          refine (HR2.out _).mono ?_; rintro e w6 ⟨rfl, hb⟩
          have KA6 := bk_below HA.out hb
          have K56 := bk_below HK.out hb
          have hB6 : Below w.heap.size w w6 := bstep HB4.out hb
          have hza := bk_lt KA6
          have hz6 := hB6.size
          clear hb
          have a0w6 : w6.cell? ⟨w4.heap.size, 0, none⟩ = some (.int .i64 0) := bk_cell KA6 0
          have a1w6 : w6.cell? ⟨w4.heap.size, 1, none⟩ = some (.int .i64 0) := bk_cell KA6 1
          have a2w6 : w6.cell? ⟨w4.heap.size, 2, none⟩ = some (.int .i64 0) := bk_cell KA6 2
          have a3w6 : w6.cell? ⟨w4.heap.size, 3, none⟩ = some (.int .u32 0) := bk_cell KA6 3
          have a4w6 : w6.cell? ⟨w4.heap.size, 4, none⟩ = some (.bool false) := bk_cell KA6 4
          have rw6 : w6.cell? ⟨w.heap.size + 1, 0, none⟩ = some (.int .u32 (r 0)) := (bk_cell K56 0).trans (by first | rfl | (rw [← HR0.out]; rfl))
          have zrw6 : w.heap.size + 1 < w6.heap.size := bk_lt K56
          have HB6 := Lib.hid hB6
          clear hB6 KA6 K56
          go_wp2_with fail
          refine (awake_any _).mono ?_; rintro e w7 ⟨rfl, hb⟩
          go_wp2
          go_returns
          exact ⟨by simp, bstep (by first | exact HB6.out | exact HB6.out.alloc HB6.out.size _ | go_grown) hb⟩
        · have HR2 := HR1
          have HR0 := Lib.hid (show r 0 = r 0 from rfl)
          have c5 : ¬ (4 ≤ at_ ∧ at_ ≤ 7) := hat
          rcases (by omega : at_ < 4 ∨ (4 ≤ at_ ∧ 7 < at_)) with h | ⟨h, h'⟩
          · have d1 : decide (at_ ≥ 4) = false := by simp; omega
            have d1' : decide (4 ≤ at_) = false := by simp; omega
            clear c5 hat
            go_upto_region 8 with fail
            refine wp_abs (fun W5 => W5.heap[w.heap.size + 1]? = some (.cells (regs r) 24 (0, 0)) ∧ W5.heap[w4.heap.size]? = some (.cells #[.int .i64 0, .int .i64 0, .int .i64 0, .int .u32 0, .bool false] 27 (0, 0)) ∧ Below w.heap.size w W5) ⟨bk_alloc HK54.out _, bk_new w4 _, HB4'.out.alloc hz4 _⟩ ?_
            rintro W5 ⟨K5, KA, hB5⟩
            have HK := Lib.hid K5
            have HB4 := Lib.hid hB5
            have HA := Lib.hid KA
            clear K5 hB5 KA
            refine wp_region_lit ?_
            refine wpList_load_row rfl 24 _ rfl (w.heap.size + 1) rfl 24 (regs (r)) (0, 0) _ (by exact HK.out) Try.underlying24 rfl (by kernel_rfl) ?_
            go_wp2_with fail
            refine (HR2.out _).mono ?_; rintro e w6 ⟨rfl, hb⟩
            have KA6 := bk_below HA.out hb
            have K56 := bk_below HK.out hb
            have hB6 : Below w.heap.size w w6 := bstep HB4.out hb
            have hza := bk_lt KA6
            have hz6 := hB6.size
            clear hb
            have a0w6 : w6.cell? ⟨w4.heap.size, 0, none⟩ = some (.int .i64 0) := bk_cell KA6 0
            have a1w6 : w6.cell? ⟨w4.heap.size, 1, none⟩ = some (.int .i64 0) := bk_cell KA6 1
            have a2w6 : w6.cell? ⟨w4.heap.size, 2, none⟩ = some (.int .i64 0) := bk_cell KA6 2
            have a3w6 : w6.cell? ⟨w4.heap.size, 3, none⟩ = some (.int .u32 0) := bk_cell KA6 3
            have a4w6 : w6.cell? ⟨w4.heap.size, 4, none⟩ = some (.bool false) := bk_cell KA6 4
            have rw6 : w6.cell? ⟨w.heap.size + 1, 0, none⟩ = some (.int .u32 (r 0)) := (bk_cell K56 0).trans (by first | rfl | (rw [← HR0.out]; rfl))
            have zrw6 : w.heap.size + 1 < w6.heap.size := bk_lt K56
            have HB6 := Lib.hid hB6
            clear hB6 KA6 K56
            go_wp2_with fail
            refine (awake_any _).mono ?_; rintro e w7 ⟨rfl, hb⟩
            go_wp2
            go_returns
            exact ⟨by simp, bstep (by first | exact HB6.out | exact HB6.out.alloc HB6.out.size _ | go_grown) hb⟩
          · have d1 : decide (at_ ≥ 4) = true := by simp; omega
            have d1' : decide (4 ≤ at_) = true := by simp; omega
            have d2 : decide (at_ ≤ 7) = false := by simp; omega
            clear c5 hat
            go_upto_region 8 with fail
            refine wp_abs (fun W5 => W5.heap[w.heap.size + 1]? = some (.cells (regs r) 24 (0, 0)) ∧ W5.heap[w4.heap.size]? = some (.cells #[.int .i64 0, .int .i64 0, .int .i64 0, .int .u32 0, .bool false] 27 (0, 0)) ∧ Below w.heap.size w W5) ⟨bk_alloc HK54.out _, bk_new w4 _, HB4'.out.alloc hz4 _⟩ ?_
            rintro W5 ⟨K5, KA, hB5⟩
            have HK := Lib.hid K5
            have HB4 := Lib.hid hB5
            have HA := Lib.hid KA
            clear K5 hB5 KA
            refine wp_region_lit ?_
            refine wpList_load_row rfl 24 _ rfl (w.heap.size + 1) rfl 24 (regs (r)) (0, 0) _ (by exact HK.out) Try.underlying24 rfl (by kernel_rfl) ?_
            go_wp2_with fail
            refine (HR2.out _).mono ?_; rintro e w6 ⟨rfl, hb⟩
            have KA6 := bk_below HA.out hb
            have K56 := bk_below HK.out hb
            have hB6 : Below w.heap.size w w6 := bstep HB4.out hb
            have hza := bk_lt KA6
            have hz6 := hB6.size
            clear hb
            have a0w6 : w6.cell? ⟨w4.heap.size, 0, none⟩ = some (.int .i64 0) := bk_cell KA6 0
            have a1w6 : w6.cell? ⟨w4.heap.size, 1, none⟩ = some (.int .i64 0) := bk_cell KA6 1
            have a2w6 : w6.cell? ⟨w4.heap.size, 2, none⟩ = some (.int .i64 0) := bk_cell KA6 2
            have a3w6 : w6.cell? ⟨w4.heap.size, 3, none⟩ = some (.int .u32 0) := bk_cell KA6 3
            have a4w6 : w6.cell? ⟨w4.heap.size, 4, none⟩ = some (.bool false) := bk_cell KA6 4
            have rw6 : w6.cell? ⟨w.heap.size + 1, 0, none⟩ = some (.int .u32 (r 0)) := (bk_cell K56 0).trans (by first | rfl | (rw [← HR0.out]; rfl))
            have zrw6 : w.heap.size + 1 < w6.heap.size := bk_lt K56
            have HB6 := Lib.hid hB6
            clear hB6 KA6 K56
            go_wp2_with fail
            refine (awake_any _).mono ?_; rintro e w7 ⟨rfl, hb⟩
            go_wp2
            go_returns
            exact ⟨by simp, bstep (by first | exact HB6.out | exact HB6.out.alloc HB6.out.size _ | go_grown) hb⟩
end Go.Proofs.Ytnhffghppjlbaaa
