/- The law's own example, and what the document fixes of it. -/
import Derived.Test.YtjbblocfdfjfmaaPlanO
import Derived.Test.YtjbblocfdfjfmaaPlanC
import Derived.Test.YtjbblocfdfjfmaaPlanT
import Derived.Test.YtjbblocfdfjfmaaRPlan
namespace Go.Proofs.Ytjbblocfdfjfmaa
open Go.RowKit
set_option linter.unusedVariables false
set_option linter.unusedSimpArgs false
/-- the document's example -/
def C2 : Cfg := ⟨2, 2, 1, fun i => if i = 0 then 4 else 5, fun i => if i = 0 then 1 else 4, fun i => if i = 0 then 0 else 1, fun i => if i = 0 then 2 else 1, fun _ => 0, fun _ => 1, fun _ => 2, fun _ => 3⟩
theorem C2_num : NumOk C2 := by
  refine ⟨by decide, ?_, ?_, ?_, ?_⟩
  · intro i hi
    match i, hi with
    | 0, _ => decide
    | 1, _ => decide
  · intro i hi
    match i, hi with
    | 0, _ => decide
    | 1, _ => decide
  · intro i hi
    match i, hi with
    | 0, _ => decide
    | 1, _ => decide
  · intro i hi
    match i, hi with
    | 0, _ => decide
theorem C2_ok : CkOk C2 := ⟨C2_num, by rw [frE_ok C2_num]; decide⟩
theorem C2_big : Big C2 := ⟨by decide, by decide, by decide⟩
theorem two_any (w : World) :
    Calls Try.prog 23 #[] w fun e w' => ∃ ly, e = .returned (.agg (cfgV C2 ly)) ∧ IsC w' C2 ly ∧ Below w.heap.size w w' := by
  go_enter Try.func23, Try.ntmps23
  go_wp2
  go_returns
  refine ⟨⟨some ⟨w.heap.size + 1, 0, none⟩, 2, some ⟨w.heap.size + 1 + 1, 0, none⟩, 2, some ⟨w.heap.size + 1 + 1 + 1, 0, none⟩, 1⟩, rfl, ⟨?_, ?_, ?_⟩, by go_grown⟩
  · refine .inr ⟨_, 0, rfl, fun i hi => ?_⟩
    match i, hi with
    | 0, _ => exact ⟨by simp [C2, go_sem], by simp [C2, go_sem]⟩
    | 1, _ => exact ⟨by simp [C2, go_sem], by simp [C2, go_sem]⟩
  · refine .inr ⟨_, 0, rfl, fun i hi => ?_⟩
    match i, hi with
    | 0, _ => exact ⟨by simp [C2, go_sem], by simp [C2, go_sem]⟩
    | 1, _ => exact ⟨by simp [C2, go_sem], by simp [C2, go_sem]⟩
  · refine .inr ⟨_, 0, rfl, fun i hi => ?_⟩
    match i, hi with
    | 0, _ => exact ⟨by simp [C2, go_sem], by simp [C2, go_sem], by simp [C2, go_sem], by simp [C2, go_sem]⟩
theorem t2a : trA C2 1 = 10 := (own_in (C := C2) (i := 1) C2_ok (by decide)).2.2.2.1.trans (by decide)
theorem t2b : trB C2 1 = 2 := (own_in (C := C2) (i := 1) C2_ok (by decide)).2.2.2.2.trans (by decide)
theorem t2e : ownE C2 1 = 0 := (own_in (C := C2) (i := 1) C2_ok (by decide)).2.2.1
theorem c2a : chA C2 0 = 12 := (chan_in (C := C2) (i := 0) C2_ok (by decide)).1.trans (by decide)
theorem c2b : chB C2 0 = 1 := (chan_in (C := C2) (i := 0) C2_ok (by decide)).2.1.trans (by decide)
theorem c2e : chE C2 0 = 0 := (chan_in (C := C2) (i := 0) C2_ok (by decide)).2.2
theorem m2 : majR C2 = 3 := (majR_ok C2_ok).trans (by decide)
theorem w2w : turnW C2 5 = 1 := by
  unfold turnW
  rw [if_pos C2_ok]
  decide
theorem w2p : turnP C2 5 = 1 := by
  unfold turnP
  rw [if_pos C2_ok]
  decide
set_option maxHeartbeats 4000000 in
theorem awake_any (w : World) :
    Calls Try.prog 9 #[] w fun e w' => e = .returned (.bool true) ∧ Below w.heap.size w w' := by
  have h1 := fun (l : Lay) (W : World) (h : IsC W C2 l) => traps_any C2 l 1 W h C2_big
  have h2 := fun (l : Lay) (W : World) (h : IsC W C2 l) => chan_any C2 l 0 W h C2_big
  have h3 := fun (l : Lay) (W : World) (h : IsC W C2 l) => major_any C2 l W h C2_big
  have h4 := fun (l : Lay) (W : World) (h : IsC W C2 l) => turn_any C2 l 5 W h C2_big (by decide) (by decide)
  rw [t2a, t2b, t2e] at h1
  rw [c2a, c2b, c2e] at h2
  rw [m2, ckE_ok C2_ok] at h3
  rw [w2w, w2p, ckE_ok C2_ok] at h4
  have H1 := Lib.hid h1
  have H2 := Lib.hid h2
  have H3 := Lib.hid h3
  have H4 := Lib.hid h4
  clear h1 h2 h3 h4
  go_enter Try.func9, Try.ntmps9
  go_wp2_with fail
  refine (two_any _).mono ?_; rintro e w1 ⟨l1, rfl, hI1, hb1⟩
  have HB1 := Lib.hid hb1
  clear hb1
  go_wp2_with fail
  refine (H1.out l1 _ hI1).mono ?_; rintro e w2 ⟨rfl, hb2⟩
  have HB2 := Lib.hid (bstep HB1.out hb2)
  clear hb2 hI1
  go_wp2_with fail
  refine (two_any _).mono ?_; rintro e w3 ⟨l3, rfl, hI3, hb3⟩
  have HB3 := Lib.hid (bstep HB2.out hb3)
  clear hb3
  go_wp2_with fail
  refine (H2.out l3 _ hI3).mono ?_; rintro e w4 ⟨rfl, hb4⟩
  have HB4 := Lib.hid (bstep HB3.out hb4)
  clear hb4 hI3
  go_wp2_with fail
  refine (two_any _).mono ?_; rintro e w5 ⟨l5, rfl, hI5, hb5⟩
  have HB5 := Lib.hid (bstep HB4.out hb5)
  clear hb5
  go_wp2_with fail
  refine (H3.out l5 _ hI5).mono ?_; rintro e w6 ⟨rfl, hb6⟩
  have HB6 := Lib.hid (bstep HB5.out hb6)
  clear hb6 hI5
  go_wp2_with fail
  refine (two_any _).mono ?_; rintro e w7 ⟨l7, rfl, hI7, hb7⟩
  have HB7 := Lib.hid (bstep HB6.out hb7)
  clear hb7
  go_wp2_with fail
  refine (H4.out l7 _ hI7).mono ?_; rintro e w8 ⟨rfl, hb8⟩
  have HB8 := Lib.hid (bstep HB7.out hb8)
  clear hb8 hI7
  go_wp2
  go_ret
  exact ⟨rfl, HB8.out⟩
end Go.Proofs.Ytjbblocfdfjfmaa
