/- The law's own example, and what the document fixes of it. -/
import Derived.Test.YtlmgkdilidgkgaaSched5
import Derived.Test.YtlmgkdilidgkgaaRTurn
namespace Go.Proofs.Ytlmgkdilidgkgaa
open Go.RowKit
set_option linter.unusedVariables false
set_option linter.unusedSimpArgs false
/-- the document's example -/
def C2 : Cfg := ⟨2, 2, 0, fun _ => 4, fun _ => 1, fun i => if i = 0 then 0 else 1, fun i => if i = 0 then 2 else 1, fun _ => 0, fun _ => 0, fun _ => 0, fun _ => 0⟩
theorem C2_num : NumOk C2 := by
  refine ⟨by decide, ?_, ?_, ?_, ?_⟩
  · intro i hi
    match i, hi with
    | 0, _ => decide
    | 1, _ => decide
  · intro i hi
    match i, hi with
    | 0, _ => decide
    | 1, _ => decide
  · intro i hi
    match i, hi with
    | 0, _ => decide
    | 1, _ => decide
  · intro i hi
    exact absurd hi (Nat.not_lt_zero _)
theorem C2_ok : CkOk C2 := ⟨C2_num, by rw [frE_ok C2_num]; decide⟩
def Big (C : Cfg) : Prop := C.nP ≤ 1000000 ∧ C.nW ≤ 1000000 ∧ C.nC ≤ 1000000
theorem C2_big : Big C2 := ⟨by decide, by decide, by decide⟩
theorem two_any (w : World) :
    Calls Try.prog 20 #[] w fun e w' => ∃ ly, e = .returned (.agg (cfgV C2 ly)) ∧ IsC w' C2 ly ∧ Below w.heap.size w w' := by
  go_enter Try.func20, Try.ntmps20
  go_wp2
  go_returns
  refine ⟨⟨some ⟨w.heap.size + 1, 0, none⟩, 2, some ⟨w.heap.size + 1 + 1, 0, none⟩, 2, none, 0⟩, rfl, ⟨?_, ?_, .inl rfl⟩, by go_grown⟩
  · refine .inr ⟨_, 0, rfl, fun i hi => ?_⟩
    match i, hi with
    | 0, _ => exact ⟨by simp [C2, go_sem], by simp [C2, go_sem]⟩
    | 1, _ => exact ⟨by simp [C2, go_sem], by simp [C2, go_sem]⟩
  · refine .inr ⟨_, 0, rfl, fun i hi => ?_⟩
    match i, hi with
    | 0, _ => exact ⟨by simp [C2, go_sem], by simp [C2, go_sem]⟩
    | 1, _ => exact ⟨by simp [C2, go_sem], by simp [C2, go_sem]⟩
theorem st_vals : stA C2 0 = 0 ∧ stA C2 1 = 0 ∧ stA C2 2 = 1 ∧ stA C2 3 = 0 ∧ stG C2 0 = 0 := by decide
theorem part_at (g gl cap : Nat) (C : Cfg) (t : Nat) (w : World) (hok : NumOk C) (h : AtT w g gl cap C t) :
    Calls Try.prog 12 #[.pointer (some ⟨g, 0, none⟩)] w fun e w' => e = .returned (.int .i64 (C.wp (stA C t))) ∧ Below w.heap.size w w' :=
  spart_any g gl C.nW cap C.wp C.wt (stA C t) (stG C t) t w h (st_spec hok t).1
theorem window_at (g gl cap : Nat) (C : Cfg) (t : Nat) (w : World) (hok : NumOk C) (h : AtT w g gl cap C t) :
    Calls Try.prog 13 #[.pointer (some ⟨g, 0, none⟩)] w fun e w' => e = .returned (.int .i64 (stA C t)) ∧ Below w.heap.size w w' :=
  swindow_any g gl C.nW cap C.wp C.wt (stA C t) (stG C t) t w h (st_spec hok t).1
theorem ticks_at (g gl cap : Nat) (C : Cfg) (t : Nat) (w : World) (hok : NumOk C) (h : AtT w g gl cap C t) :
    Calls Try.prog 14 #[.pointer (some ⟨g, 0, none⟩)] w fun e w' => e = .returned (.int .u64 t) ∧ Below w.heap.size w w' :=
  sticks_any g gl C.nW cap C.wp C.wt (stA C t) (stG C t) t w h (by have := hok.N; omega)
theorem left_at (g gl cap : Nat) (C : Cfg) (t : Nat) (w : World) (hok : NumOk C) (h : AtT w g gl cap C t) :
    Calls Try.prog 15 #[.pointer (some ⟨g, 0, none⟩)] w fun e w' => e = .returned (.int .i64 (C.wt (stA C t) - stG C t)) ∧ Below w.heap.size w w' := by
  have hs := st_spec hok t
  have ht := hok.ticks _ hs.1
  exact sleft_any g gl C.nW cap C.wp C.wt (stA C t) (stG C t) t w h hs.1 (by omega)
set_option maxHeartbeats 4000000 in
theorem awake_any (w : World) :
    Calls Try.prog 8 #[] w fun e w' => e = .returned (.bool true) ∧ Below w.heap.size w w' := by
  obtain ⟨v0, v1, v2, v3, v4⟩ := st_vals
  have h1 := fun (l : Lay) (W : World) (h : IsC W C2 l) => snew_ok C2 l W h C2_big C2_ok
  have h2 := fun (g gl cap : Nat) (W : World) (h : AtT W g gl cap C2 0) => left_at g gl cap C2 0 W C2_num h
  have h3 := fun (g gl cap : Nat) (W : World) (h : AtT W g gl cap C2 0) => tick_at g gl cap C2 0 W C2_num h (by decide)
  have h4 := fun (g gl cap : Nat) (W : World) (h : AtT W g gl cap C2 1) => tick_at g gl cap C2 1 W C2_num h (by decide)
  have h5 := fun (g gl cap : Nat) (W : World) (h : AtT W g gl cap C2 2) => tick_at g gl cap C2 2 W C2_num h (by decide)
  have h6 := fun (g gl cap : Nat) (W : World) (h : AtT W g gl cap C2 3) => ticks_at g gl cap C2 3 W C2_num h
  rw [v0, v4, show C2.wt 0 - 0 = 2 from rfl] at h2
  rw [v0, v1, show C2.wp 0 = 0 from rfl] at h3
  rw [v1, v2, show C2.wp 0 = 0 from rfl, show C2.wp 1 = 1 from rfl] at h4
  rw [v2, v3, show C2.wp 0 = 0 from rfl, show C2.wp 1 = 1 from rfl] at h5
  have H1 := Lib.hid h1
  have H2 := Lib.hid h2
  have H3 := Lib.hid h3
  have H4 := Lib.hid h4
  have H5 := Lib.hid h5
  have H6 := Lib.hid h6
  clear h1 h2 h3 h4 h5 h6 v0 v1 v2 v3 v4
  go_enter Try.func8, Try.ntmps8
  go_wp2_with fail
  refine (two_any _).mono ?_; rintro e w1 ⟨l1, rfl, hI1, hb1⟩
  have HB1 := Lib.hid hb1
  have HI1 := Lib.hid hI1
  clear hb1 hI1
  go_wp2_with fail
  refine (H1.out l1 _ HI1.out).mono ?_; rintro e w2 ⟨g, gl, cap, rfl, hs2, hg, hgl, hb2⟩
  have HB2 := Lib.hid (bstep HB1.out hb2)
  have HS2 := Lib.hid hs2
  have hz1 := HB1.out.size
  clear hb2 hs2
  go_wp2_with fail
  refine (H2.out g gl cap _ HS2.out).mono ?_; rintro e w3 ⟨rfl, hb3⟩
  have HS3 := Lib.hid (HS2.out.below hb3)
  have HB3 := Lib.hid (bstep HB2.out hb3)
  clear hb3
  go_wp2_with fail
  refine (H3.out g gl cap _ HS3.out).mono ?_; rintro e w4 ⟨rfl, hs4, hk4⟩
  have HS4 := Lib.hid hs4
  have HB4 := Lib.hid (Kept.below HB3.out hk4 (by omega) HB3.out.size)
  clear hs4 hk4
  go_wp2_with fail
  refine (H4.out g gl cap _ HS4.out).mono ?_; rintro e w5 ⟨rfl, hs5, hk5⟩
  have HS5 := Lib.hid hs5
  have HB5 := Lib.hid (Kept.below HB4.out hk5 (by omega) HB4.out.size)
  clear hs5 hk5
  go_wp2_with fail
  refine (H5.out g gl cap _ HS5.out).mono ?_; rintro e w6 ⟨rfl, hs6, hk6⟩
  have HS6 := Lib.hid hs6
  have HB6 := Lib.hid (Kept.below HB5.out hk6 (by omega) HB5.out.size)
  clear hs6 hk6
  go_wp2_with fail
  refine (H6.out g gl cap _ HS6.out).mono ?_; rintro e w7 ⟨rfl, hb7⟩
  go_wp2
  go_ret
  exact ⟨rfl, bstep HB6.out hb7⟩
end Go.Proofs.Ytlmgkdilidgkgaa
