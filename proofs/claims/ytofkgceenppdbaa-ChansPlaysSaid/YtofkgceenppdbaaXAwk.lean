/- The law's own example, and what the document fixes of it. -/
import Derived.Test.YtofkgceenppdbaaSys
import Derived.Test.YtofkgceenppdbaaSameW
namespace Go.Proofs.Ytofkgceenppdbaa
open Go.RowKit
set_option linter.unusedVariables false
set_option linter.unusedSimpArgs false
/-- the document's example -/
def C2 : Cfg := ⟨2, 2, 1, fun _ => 4, fun _ => 1, fun i => i, fun _ => 1, fun _ => 0, fun _ => 1, fun _ => 2, fun _ => 3⟩
theorem C2_num : NumOk C2 := by
  refine ⟨by decide, ?_, ?_, ?_, ?_⟩
  · intro i hi
    match i, hi with
    | 0, _ => decide
    | 1, _ => decide
  · intro i hi
    match i, hi with
    | 0, _ => decide
    | 1, _ => decide
  · intro i hi
    match i, hi with
    | 0, _ => decide
    | 1, _ => decide
  · intro i hi
    match i, hi with
    | 0, _ => decide
theorem C2_fr : frE C2 = 11 := by rw [frE_ok C2_num]; decide
theorem C2_ok : CkOk C2 := ⟨C2_num, by rw [C2_fr]; decide⟩
theorem C2_big : Big C2 := ⟨by decide, by decide, by decide⟩
theorem two_any (w : World) :
    Calls Try.prog 30 #[] w fun e w' => ∃ ly, e = .returned (.agg (cfgV C2 ly)) ∧ IsC w' C2 ly ∧ Below w.heap.size w w' := by
  go_enter Try.func30, Try.ntmps30
  go_wp2
  go_returns
  refine ⟨⟨some ⟨w.heap.size + 1, 0, none⟩, 2, some ⟨w.heap.size + 1 + 1, 0, none⟩, 2, some ⟨w.heap.size + 1 + 1 + 1, 0, none⟩, 1⟩, rfl, ⟨?_, ?_, ?_⟩, by go_grown⟩
  · refine .inr ⟨_, 0, rfl, fun i hi => ?_⟩
    match i, hi with
    | 0, _ => exact ⟨by simp [C2, go_sem], by simp [C2, go_sem]⟩
    | 1, _ => exact ⟨by simp [C2, go_sem], by simp [C2, go_sem]⟩
  · refine .inr ⟨_, 0, rfl, fun i hi => ?_⟩
    match i, hi with
    | 0, _ => exact ⟨by simp [C2, go_sem], by simp [C2, go_sem]⟩
    | 1, _ => exact ⟨by simp [C2, go_sem], by simp [C2, go_sem]⟩
  · refine .inr ⟨_, 0, rfl, fun i hi => ?_⟩
    match i, hi with
    | 0, _ => exact ⟨by simp [C2, go_sem], by simp [C2, go_sem], by simp [C2, go_sem], by simp [C2, go_sem]⟩
theorem row2 {w : World} {b : Nat} {x y : Int} {t : TypeId} (h : w.heap[b]? = some (.cells #[.int .u32 x, .int .u32 y] t (0, 0))) : Sl w .u32 (some ⟨b, 0, none⟩) [x, y].length (fun i => [x, y].getD i 0) := by
  refine .inr ⟨b, 0, rfl, fun i hi => ?_⟩
  match i, hi with
  | 0, _ => exact (bk_cell h 0).trans rfl
  | 1, _ => exact (bk_cell h 1).trans rfl
theorem row1 {w : World} {b : Nat} {x : Int} {t : TypeId} (h : w.heap[b]? = some (.cells #[.int .u32 x] t (0, 0))) : Sl w .u32 (some ⟨b, 0, none⟩) [x].length (fun i => [x].getD i 0) := by
  refine .inr ⟨b, 0, rfl, fun i hi => ?_⟩
  match i, hi with
  | 0, _ => exact (bk_cell h 0).trans rfl
theorem wd78 : ∀ i, i < [(7 : Int), 8].length → 0 ≤ [(7 : Int), 8].getD i 0 ∧ [(7 : Int), 8].getD i 0 < 4294967296 := by
  intro i hi
  match i, hi with
  | 0, _ => decide
  | 1, _ => decide
theorem wd7 : ∀ i, i < [(7 : Int)].length → 0 ≤ [(7 : Int)].getD i 0 ∧ [(7 : Int)].getD i 0 < 4294967296 := by
  intro i hi
  match i, hi with
  | 0, _ => decide
def L0 : Nat → List (List Int) := fun _ => []
def L1 : Nat → List (List Int) := updL L0 0 [[7, 8]]
theorem a1 : sendE C2 L0 0 0 2 = 0 := by decide
theorem a2 : sendL C2 L0 0 0 [7, 8] = L1 := by
  unfold sendL
  rw [if_pos (show sendE C2 L0 0 0 [(7 : Int), 8].length = 0 from a1)]
  rfl
theorem a3 : sendE C2 L1 1 0 1 = 8 := by decide
theorem a4 : sendL C2 L1 1 0 [7] = L1 := if_neg (by rw [show sendE C2 L1 1 0 [(7 : Int)].length = 8 from a3]; decide)
theorem a5 : recvX C2 L1 1 0 = [7, 8] := by decide
theorem a6 : recvE C2 L1 1 0 = 0 := by decide
theorem a7 : recvL C2 L1 1 0 = updL L1 0 [] := by
  unfold recvL
  rw [if_pos (by decide)]
  rfl
theorem a8 : recvX C2 (updL L1 0 []) 1 0 = [] := by decide
theorem a9 : recvE C2 (updL L1 0 []) 1 0 = 12 := by decide
theorem a10 {L : Nat → List (List Int)} : sendE C2 L 0 1 2 = 4 := (same_far (C := C2) (ch := 1) (.inr (by decide))).1
/-- the example's calls -/
theorem k1 (L b : Nat) (K : CX) (W : World) (t : TypeId) (h : Sys L W C2 K L0 (fun _ => 0)) (hb : W.heap[b]? = some (.cells #[.int .u32 7, .int .u32 8] t (0, 0))) (hf : b ≠ K.fb ∧ ∀ i, i < C2.nC → b ≠ K.R i) :
    Calls Try.prog 14 #[.pointer (some ⟨K.X, 0, none⟩), .int .i64 0, .int .i64 0, .slice (some ⟨b, 0, none⟩) 2 2] W fun e W' => e = .returned (.int .i64 0) ∧ Sys L W' C2 K L1 (fun _ => 0) ∧ Below L W W' := by
  have := sys_send 0 0 (some ⟨b, 0, none⟩) [7, 8] 2 h (row2 hb) wd78 (fun b' o e _ => by simp only [Option.some.injEq, Addr.mk.injEq] at e; obtain ⟨rfl, _⟩ := e; exact hf)
  rw [a2, show sendE C2 L0 0 0 [(7 : Int), 8].length = 0 from a1] at this
  exact this.mono fun e w' h => ⟨h.1, h.2.1, h.2.2.1⟩
theorem k2 (L b : Nat) (K : CX) (W : World) (t : TypeId) (h : Sys L W C2 K L1 (fun _ => 0)) (hb : W.heap[b]? = some (.cells #[.int .u32 7] t (0, 0))) (hf : b ≠ K.fb ∧ ∀ i, i < C2.nC → b ≠ K.R i) :
    Calls Try.prog 14 #[.pointer (some ⟨K.X, 0, none⟩), .int .i64 1, .int .i64 0, .slice (some ⟨b, 0, none⟩) 1 1] W fun e W' => e = .returned (.int .i64 8) ∧ Sys L W' C2 K L1 (fun _ => 0) ∧ Below L W W' := by
  have := sys_send 1 0 (some ⟨b, 0, none⟩) [7] 1 h (row1 hb) wd7 (fun b' o e _ => by simp only [Option.some.injEq, Addr.mk.injEq] at e; obtain ⟨rfl, _⟩ := e; exact hf)
  rw [a4, show sendE C2 L1 1 0 [(7 : Int)].length = 8 from a3] at this
  exact this.mono fun e w' h => ⟨h.1, h.2.1, h.2.2.1⟩
theorem k3 (L : Nat) (K : CX) (W : World) (h : Sys L W C2 K L1 (fun _ => 0)) :
    Calls Try.prog 21 #[.pointer (some ⟨K.X, 0, none⟩), .int .i64 1, .int .i64 0] W fun e W' => e = .returned (.tuple #[.int .i64 2, .int .i64 0]) ∧ Below W.heap.size W W' := by
  have := sys_next 1 0 h
  rw [a5, a6] at this
  exact this
theorem k4 (L : Nat) (K : CX) (W : World) (h : Sys L W C2 K L1 (fun _ => 0)) :
    Calls Try.prog 15 #[.pointer (some ⟨K.X, 0, none⟩), .int .i64 1, .int .i64 0] W fun e W' => ∃ b c, e = .returned (.tuple #[.slice (some ⟨b, 0, none⟩) 2 c, .int .i64 0]) ∧ Sl W' .u32 (some ⟨b, 0, none⟩) 2 (fun i => [7, 8].getD i 0) ∧ W.heap.size ≤ b ∧ b < W'.heap.size ∧ Sys L W' C2 K (updL L1 0 []) (fun _ => 0) ∧ Below L W W' ∧ (b ≠ K.fb ∧ ∀ i, i < C2.nC → b ≠ K.R i) := by
  have := sys_recv 1 0 h
  rw [a5, a6, a7] at this
  refine this.mono ?_
  rintro e w' ⟨v, rfl, ho, hs, hb, _⟩
  have ho2 := ho
  obtain ⟨a, c, rfl, h1, h2⟩ := own_sl ho
  obtain ⟨⟨_, h3⟩, _⟩ := ho2
  rcases h3 with ⟨e, _⟩ | ⟨g, cap, cur, e, hg, hgg, _⟩
  · cases e
  · simp only [Value.slice.injEq] at e
    obtain ⟨rfl, _, rfl⟩ := e
    exact ⟨g, c, rfl, h1, hg, bk_lt hgg, hs, hb, h.fresh hg⟩
theorem k5 (L : Nat) (K : CX) (W : World) (h : Sys L W C2 K (updL L1 0 []) (fun _ => 0)) :
    Calls Try.prog 15 #[.pointer (some ⟨K.X, 0, none⟩), .int .i64 1, .int .i64 0] W fun e W' => e = .returned (.tuple #[.slice none 0 0, .int .i64 12]) ∧ Sys L W' C2 K (updL L1 0 []) (fun _ => 0) ∧ Below W.heap.size W W' := by
  obtain ⟨aa, M, h1, h2⟩ := h.x
  have hi : 0 < C2.nC := by decide
  have hr := h1.rs hi
  have e : updL L1 0 [] 0 = [] := rfl
  rw [e] at hr
  obtain ⟨l1, l2, l3, l4, l5, l6⟩ := cN_eq h1.ck hi
  refine (recv_go C2 K aa _ M 0 W (fun v E w' => v = .slice none 0 0 ∧ E = 12 ∧ w' = W) h1 hi ((rs_empty (cN C2 0) (dN C2 0) _ _ _ W hr l3).mono fun e w' h => ⟨_, _, h.1, rfl, rfl, h.2⟩)).mono ?_
  rintro e w' ⟨v, E, rfl, rfl, rfl, rfl⟩
  exact ⟨rfl, h, Below.refl _ _⟩
theorem k6 (L b c : Nat) (K : CX) (W : World) (h : Sys L W C2 K (updL L1 0 []) (fun _ => 0)) (hs : Sl W .u32 (some ⟨b, 0, none⟩) 2 (fun i => [7, 8].getD i 0)) (hf : b ≠ K.fb ∧ ∀ i, i < C2.nC → b ≠ K.R i) :
    Calls Try.prog 14 #[.pointer (some ⟨K.X, 0, none⟩), .int .i64 0, .int .i64 1, .slice (some ⟨b, 0, none⟩) 2 c] W fun e W' => e = .returned (.int .i64 4) ∧ Below W.heap.size W W' := by
  obtain ⟨aa, M, h1, h2⟩ := h.x
  refine (send_err _ 0 1 4 _ 2 c W (by decide) ?_).mono ?_
  · have := may_x C2 K aa _ M 0 1 true W h1
    exact this
  · rintro e w' ⟨rfl, rfl⟩
    exact ⟨rfl, Below.refl _ _⟩
set_option maxHeartbeats 4000000 in
theorem awake_any (w : World) :
    Calls Try.prog 10 #[] w fun e w' => e = .returned (.bool true) ∧ Below w.heap.size w w' := by
  have HN := Lib.hid fun (l : Lay) (mm fb : Nat) (W : World) (h : IsC W C2 l) (hm : MemS W mm fb 20 (fun _ => 0)) (h1 : w.heap.size ≤ mm) (h2 : w.heap.size ≤ fb) => sys_new C2 l mm fb 20 W h C2_big hm (by decide) (by decide) C2_ok (by rw [C2_fr]; decide) h1 h2
  go_enter Try.func10, Try.ntmps10
  go_wp2_with fail
  refine (mnew_ok 20 _ (by decide) (by decide)).mono ?_; rintro e w1 ⟨mm, fb, rfl, hm, hm1, hm2, hb1⟩
  have HB1 := Lib.hid hb1
  have HM1 := Lib.hid hm
  clear hb1 hm
  go_wp2_with fail
  refine (two_any _).mono ?_; rintro e w2 ⟨ly, rfl, hI, hb2⟩
  have HB2 := Lib.hid (bstep HB1.out hb2)
  have HM2 := Lib.hid (HM1.out.below hb2)
  have HI2 := Lib.hid hI
  clear hb2 hI HB1 HM1
  go_wp2_with fail
  refine (HN.out ly mm fb w2 HI2.out HM2.out hm1 hm2).mono ?_; rintro e w3 ⟨K, rfl, hs, _, hb3⟩
  have HB3 := Lib.hid (bstep HB2.out hb3)
  have HS3 := Lib.hid hs
  clear hb3 hs HB2 HM2 HI2 HN
  go_wp2_with fail
  refine (k1 w.heap.size _ K _ _ (HS3.out.below (by go_grown)) (bk_new w3 _) (HS3.out.fresh (Nat.le_refl _))).mono ?_; rintro e w4 ⟨rfl, hs4, hb4⟩
  have HS4 := Lib.hid hs4
  have HB4 := Lib.hid ((HB3.out.alloc HB3.out.size _).trans hb4)
  clear hs4 hb4 HS3 HB3
  go_wp2_with fail
  refine (k2 w.heap.size _ K _ _ (HS4.out.below (by go_grown)) (bk_new w4 _) (HS4.out.fresh (Nat.le_refl _))).mono ?_; rintro e w5 ⟨rfl, hs5, hb5⟩
  have HS5 := Lib.hid hs5
  have HB5 := Lib.hid ((HB4.out.alloc HB4.out.size _).trans hb5)
  clear hs5 hb5 HS4 HB4
  go_wp2_with fail
  refine (k3 w.heap.size K _ HS5.out).mono ?_; rintro e w6 ⟨rfl, hb6⟩
  have HS6 := Lib.hid (HS5.out.below hb6)
  have HB6 := Lib.hid (bstep HB5.out hb6)
  clear hb6 HS5 HB5
  go_wp2_with fail
  refine (k4 w.heap.size K _ HS6.out).mono ?_; rintro e w7 ⟨b, c, rfl, hl7, hg7, hlt7, hs7, hb7, hf7⟩
  have HL7 := Lib.hid hl7
  have HS7 := Lib.hid hs7
  have HF7 := Lib.hid hf7
  have HB7 := Lib.hid (HB6.out.trans hb7)
  clear hs7 hb7 hf7 hl7 HS6 HB6
  go_wp2_with fail
  refine (k5 w.heap.size K _ HS7.out).mono ?_; rintro e w8 ⟨rfl, hs8, hb8⟩
  have HL8 := Lib.hid (HL7.out.below hb8)
  have HS8 := Lib.hid hs8
  have HB8 := Lib.hid (bstep HB7.out hb8)
  clear hs8 hb8 HS7 HB7 HL7
  go_wp2_with fail
  refine (same_yes _ _ _ _ [7, 8] _ (by exact HL8.out.below (by go_grown)) (row2 (bk_new w8 _)) (by decide)).mono ?_; rintro e w9 ⟨rfl, hb9⟩
  have hb89 := bstep ((Below.refl w8.heap.size w8).alloc (Nat.le_refl _) _) hb9
  have HL9 := Lib.hid (HL8.out.below hb89)
  have HS9 := Lib.hid (HS8.out.below hb89)
  have HB9 := Lib.hid (bstep HB8.out hb89)
  clear hb9 hb89 HS8 HB8 HL8
  go_wp2_with fail
  refine (k6 w.heap.size b c K _ HS9.out HL9.out HF7.out).mono ?_; rintro e w10 ⟨rfl, hb10⟩
  go_wp2
  go_ret
  exact ⟨rfl, bstep HB9.out hb10⟩
end Go.Proofs.Ytofkgceenppdbaa
