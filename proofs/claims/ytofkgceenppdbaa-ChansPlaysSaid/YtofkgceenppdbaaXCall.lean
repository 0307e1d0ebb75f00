/- chans: Send, Recv, Next, Room. -/
import Derived.Test.YtofkgceenppdbaaXMay
namespace Go.Proofs.Ytofkgceenppdbaa
open Go.RowKit
set_option linter.unusedVariables false
set_option linter.unusedSimpArgs false
theorem send_err (v : Value) (part ch E : Int) (q : Option Addr) (n cap : Nat) (w : World) (hE : E ≠ 0) (hM : Calls Try.prog 25 #[v, .int .i64 part, .int .i64 ch, .bool true] w fun e w' => e = .returned (.int .i64 E) ∧ w' = w) :
    Calls Try.prog 14 #[v, .int .i64 part, .int .i64 ch, .slice q n cap] w fun e w' => e = .returned (.int .i64 E) ∧ w' = w := by
  have HM := Lib.hid hM
  have e1 : (E == 0) = false := beq_eq_false_iff_ne.2 hE
  clear hM
  go_enter Try.func14, Try.ntmps14
  go_wp2_with fail
  refine HM.out.mono ?_; rintro e w1 ⟨rfl, rfl⟩
  go_wp2
  go_ret
  exact ⟨rfl, rfl⟩
theorem recv_err (v : Value) (part ch E : Int) (w : World) (hE : E ≠ 0) (hM : Calls Try.prog 25 #[v, .int .i64 part, .int .i64 ch, .bool false] w fun e w' => e = .returned (.int .i64 E) ∧ w' = w) :
    Calls Try.prog 15 #[v, .int .i64 part, .int .i64 ch] w fun e w' => e = .returned (.tuple #[.slice none 0 0, .int .i64 E]) ∧ w' = w := by
  have HM := Lib.hid hM
  have e1 : (E == 0) = false := beq_eq_false_iff_ne.2 hE
  clear hM
  go_enter Try.func15, Try.ntmps15
  go_wp2_with fail
  refine HM.out.mono ?_; rintro e w1 ⟨rfl, rfl⟩
  go_wp2
  go_ret2
  exact ⟨rfl, rfl⟩
theorem next_err (v : Value) (part ch E : Int) (w : World) (hE : E ≠ 0) (hM : Calls Try.prog 25 #[v, .int .i64 part, .int .i64 ch, .bool false] w fun e w' => e = .returned (.int .i64 E) ∧ w' = w) :
    Calls Try.prog 21 #[v, .int .i64 part, .int .i64 ch] w fun e w' => e = .returned (.tuple #[.int .i64 0, .int .i64 E]) ∧ w' = w := by
  have HM := Lib.hid hM
  have e1 : (E == 0) = false := beq_eq_false_iff_ne.2 hE
  clear hM
  go_enter Try.func21, Try.ntmps21
  go_wp2_with fail
  refine HM.out.mono ?_; rintro e w1 ⟨rfl, rfl⟩
  go_wp2
  go_ret2
  exact ⟨rfl, rfl⟩
theorem mayE_in {C : Cfg} {part : Int} {i : Nat} {s : Bool} (hi : i < C.nC) (hp : part = if s then C.cf i else C.ct i) : mayE C part i s = 0 := by
  unfold mayE
  rw [if_neg (by omega), Int.toNat_natCast]
  cases s <;> simp at hp <;> simp [hp]
theorem may_in (C : Cfg) (K : CX) (aa : Nat → Nat) (LL : Nat → List (List Int)) (M : Nat → Int) (part : Int) (i : Nat) (s : Bool) (w : World) (h : IsX w C K aa LL M) (hi : i < C.nC) (hp : part = if s then C.cf i else C.ct i) :
    Calls Try.prog 25 #[.pointer (some ⟨K.X, 0, none⟩), .int .i64 part, .int .i64 i, .bool s] w fun e w' => e = .returned (.int .i64 0) ∧ w' = w := by
  have := may_x C K aa LL M part i s w h
  rw [mayE_in hi hp] at this
  exact this
set_option maxHeartbeats 1000000 in
/-- Send, whatever the ring does -/
theorem send_go (C : Cfg) (K : CX) (aa : Nat → Nat) (LL : Nat → List (List Int)) (M : Nat → Int) (i : Nat) (q : Option Addr) (n cap : Nat) (w : World) (P : Int → World → Prop) (h : IsX w C K aa LL M) (hi : i < C.nC)
    (hC : Calls Try.prog 37 #[.pointer (some ⟨K.R i, 0, none⟩), .slice q n cap, .func (.func 36) #[chX C K i] #[]] w fun e w' => ∃ E, e = .returned (.int .i64 E) ∧ P E w') :
    Calls Try.prog 14 #[.pointer (some ⟨K.X, 0, none⟩), .int .i64 (C.cf i), .int .i64 i, .slice q n cap] w fun e w' => ∃ E, e = .returned (.int .i64 E) ∧ P E w' := by
  have hmf : ∀ (fn : Fn) (first cap : Array Value) (w : World), (Instr.makeFunc fn first cap).run Try.prog w = .ok (.func fn first cap) w := fun _ _ _ _ => rfl
  have HM := Lib.hid (may_in C K aa LL M (C.cf i) i true w h hi (by simp))
  obtain ⟨c0, c1, r0, r1, r2, r3, r4, r5, r6⟩ := h.cells hi
  unfold chX chV at hC
  have HC := Lib.hid hC
  have hN := h.ck.1.N.2.2.2.2
  have d1 : (i : Int) < (C.nC : Int) := by omega
  clear h hC
  obtain ⟨X, p, lb, cp, mm, fb, nF, R⟩ := K
  simp only at *
  go_enter Try.func14, Try.ntmps14
  go_wp2_with fail
  refine HM.out.mono ?_; rintro e w1 ⟨rfl, rfl⟩
  clear HM
  go_wp2_with fail
  refine HC.out.mono ?_; rintro e w2 ⟨E, rfl, hp⟩
  go_wp2
  go_ret
  exact ⟨E, rfl, hp⟩
set_option maxHeartbeats 1000000 in
theorem recv_go (C : Cfg) (K : CX) (aa : Nat → Nat) (LL : Nat → List (List Int)) (M : Nat → Int) (i : Nat) (w : World) (P : Value → Int → World → Prop) (h : IsX w C K aa LL M) (hi : i < C.nC)
    (hC : Calls Try.prog 39 #[.pointer (some ⟨K.R i, 0, none⟩), .func (.func 38) #[chX C K i] #[]] w fun e w' => ∃ v E, e = .returned (.tuple #[v, .int .i64 E]) ∧ P v E w') :
    Calls Try.prog 15 #[.pointer (some ⟨K.X, 0, none⟩), .int .i64 (C.ct i), .int .i64 i] w fun e w' => ∃ v E, e = .returned (.tuple #[v, .int .i64 E]) ∧ P v E w' := by
  have hmf : ∀ (fn : Fn) (first cap : Array Value) (w : World), (Instr.makeFunc fn first cap).run Try.prog w = .ok (.func fn first cap) w := fun _ _ _ _ => rfl
  have HM := Lib.hid (may_in C K aa LL M (C.ct i) i false w h hi (by simp))
  obtain ⟨c0, c1, r0, r1, r2, r3, r4, r5, r6⟩ := h.cells hi
  unfold chX chV at hC
  have HC := Lib.hid hC
  have hN := h.ck.1.N.2.2.2.2
  have d1 : (i : Int) < (C.nC : Int) := by omega
  clear h hC
  obtain ⟨X, p, lb, cp, mm, fb, nF, R⟩ := K
  simp only at *
  go_enter Try.func15, Try.ntmps15
  go_wp2_with fail
  refine HM.out.mono ?_; rintro e w1 ⟨rfl, rfl⟩
  clear HM
  go_wp2_with fail
  refine HC.out.mono ?_; rintro e w2 ⟨v, E, rfl, hp⟩
  go_wp2
  go_ret2
  exact ⟨v, E, rfl, hp⟩
theorem len_b {S : (Nat → Int) → World → Prop} {R c d : Nat} {L : List (List Int)} {w : World} (h : RS S R c d L w) :
    Calls Try.prog 45 #[.pointer (some ⟨R, 0, none⟩)] w fun e w' => e = .returned (.int .i64 L.length) ∧ Below w.heap.size w w' :=
  (rs_len c d L w h).mono fun e w' h => ⟨h.1, h.2 ▸ Below.refl _ _⟩
theorem room_x (C : Cfg) (K : CX) (aa : Nat → Nat) (LL : Nat → List (List Int)) (M : Nat → Int) (i : Nat) (w : World) (h : IsX w C K aa LL M) (hi : i < C.nC) :
    Calls Try.prog 20 #[.pointer (some ⟨K.X, 0, none⟩), .int .i64 i] w fun e w' => e = .returned (.int .i64 (C.cc i - (LL i).length)) ∧ Below w.heap.size w w' := by
  have HH := Lib.hid (has_yes K.X C.nC K.cap true K.p i w h.hX hi)
  have HI := Lib.hid h
  obtain ⟨c0, c1, r0, _, _, _, _, r5, _⟩ := h.cells hi
  have hl := (h.lies i hi).2.2
  obtain ⟨l1, l2, l3, l4, l5, l6⟩ := cN_eq h.ck hi
  have hN := h.ck.1.N.2.2.2.2
  have d1 : (i : Int) < (C.nC : Int) := by omega
  have d2 : IntKind.i64.wrap (C.cc i - (LL i).length) = C.cc i - (LL i).length := IntWalk.i64_in _ (by omega)
  have HL := Lib.hid fun (W : World) (h : RS (ChS M K.mm K.fb K.nF (frN C i * 32) (winN C i)) (K.R i) (cN C i) (dN C i) (LL i) W) => len_b h
  have hR := h.rs hi
  have HK := Lib.hid fun (W W' : World) (hb : Below W.heap.size W W') (h : RS (ChS M K.mm K.fb K.nF (frN C i * 32) (winN C i)) (K.R i) (cN C i) (dN C i) (LL i) W) => RS.below (HI.out.keeps hi M) h hb
  clear h hl l1 l2 l3 l4 l5 l6
  obtain ⟨X, p, lb, cp, mm, fb, nF, R⟩ := K
  simp only at *
  go_enter Try.func20, Try.ntmps20
  go_wp2_with fail
  refine HH.out.mono ?_; rintro e w1 ⟨rfl, rfl⟩
  clear HH
  have hb0 : Below w1.heap.size w1 w1.drew := bdrew (Below.refl w1.heap.size w1)
  have hR' := HK.out _ _ hb0 hR
  go_wp2_with fail
  go_region_held3 (fun W' => W'.cell? ⟨X, 1, none⟩ = some (.slice (some ⟨lb, 0, none⟩) C.nC cp) ∧ W'.cell? ⟨lb, i * 7, none⟩ = some (.pointer (some ⟨R i, 0, none⟩)) ∧ W'.cell? ⟨lb, i * 7 + 5, none⟩ = some (.int .i64 (C.cc i)) ∧ RS (ChS M mm fb nF (frN C i * 32) (winN C i)) (R i) (cN C i) (dN C i) (LL i) W' ∧ Below w1.heap.size w1 W')
    (first | ((try go_split_ands); (repeat' apply And.intro) <;> first | assumption | with_reducible first | exact keepc hb (by assumption) | exact HK.out _ _ hb (by assumption) | exact bstep (by assumption) hb | trace_state))
    (first | (go_at_call 45; (try go_split_ands); refine (HL.out _ (by assumption)).mono ?_; rintro e1 w5 ⟨rfl, hb⟩))
  all_goals
    (try go_split_ands)
    go_wp2
    go_ret
    exact ⟨by first | rfl | simp, by assumption⟩
theorem next_none (C : Cfg) (K : CX) (aa : Nat → Nat) (LL : Nat → List (List Int)) (M : Nat → Int) (i : Nat) (w : World) (h : IsX w C K aa LL M) (hi : i < C.nC) (hL : LL i = []) :
    Calls Try.prog 21 #[.pointer (some ⟨K.X, 0, none⟩), .int .i64 (C.ct i), .int .i64 i] w fun e w' => e = .returned (.tuple #[.int .i64 0, .int .i64 12]) ∧ Below w.heap.size w w' := by
  have HM := Lib.hid (may_in C K aa LL M (C.ct i) i false w h hi (by simp))
  obtain ⟨c0, c1, r0, _, _, _, _, _, _⟩ := h.cells hi
  have hN := h.ck.1.N.2.2.2.2
  have d1 : (i : Int) < (C.nC : Int) := by omega
  have hq := h.rs hi
  rw [hL] at hq
  have HL := Lib.hid (len_b hq)
  clear h hq
  obtain ⟨X, p, lb, cp, mm, fb, nF, R⟩ := K
  simp only at *
  go_enter Try.func21, Try.ntmps21
  go_wp2_with fail
  refine HM.out.mono ?_; rintro e w1 ⟨rfl, rfl⟩
  clear HM
  go_wp2_with fail
  refine HL.out.mono ?_; rintro e w2 ⟨rfl, hb⟩
  go_wp2
  go_ret2
  exact ⟨rfl, hb⟩
set_option maxHeartbeats 1000000 in
theorem next_one (C : Cfg) (K : CX) (aa : Nat → Nat) (LL : Nat → List (List Int)) (M : Nat → Int) (i : Nat) (xs : List Int) (L : List (List Int)) (w : World) (h : IsX w C K aa LL M) (hi : i < C.nC) (hL : LL i = xs :: L) :
    Calls Try.prog 21 #[.pointer (some ⟨K.X, 0, none⟩), .int .i64 (C.ct i), .int .i64 i] w fun e w' => e = .returned (.tuple #[.int .i64 xs.length, .int .i64 0]) ∧ Below w.heap.size w w' := by
  have hmf : ∀ (fn : Fn) (first cap : Array Value) (w : World), (Instr.makeFunc fn first cap).run Try.prog w = .ok (.func fn first cap) w := fun _ _ _ _ => rfl
  have HM := Lib.hid (may_in C K aa LL M (C.ct i) i false w h hi (by simp))
  have HI := Lib.hid h
  obtain ⟨c0, c1, r0, r1, r2, r3, r4, r5, r6⟩ := h.cells hi
  have hN := h.ck.1.N.2.2.2.2
  have d1 : (i : Int) < (C.nC : Int) := by omega
  obtain ⟨l1, l2, l3, l4, l5, l6⟩ := cN_eq h.ck hi
  have hR := h.rs hi
  rw [hL] at hR
  have d3 : (((xs :: L).length : Int) == 0) = false := beq_eq_false_iff_ne.2 (by simp; omega)
  have HX := Lib.hid fun (W : World) (h : RS (ChS M K.mm K.fb K.nF (frN C i * 32) (winN C i)) (K.R i) (cN C i) (dN C i) (xs :: L) W) => rs_next (HI.out.keeps hi M) (cN C i) (dN C i) L xs W l3 l4 l6 (Nat.le_refl _) h
  have HL := Lib.hid fun (W : World) (h : RS (ChS M K.mm K.fb K.nF (frN C i * 32) (winN C i)) (K.R i) (cN C i) (dN C i) (xs :: L) W) => len_b h
  have HK := Lib.hid fun (W W' : World) (hb : Below W.heap.size W W') (h : RS (ChS M K.mm K.fb K.nF (frN C i * 32) (winN C i)) (K.R i) (cN C i) (dN C i) (xs :: L) W) => RS.below (HI.out.keeps hi M) h hb
  unfold chX chV at HX
  clear h l1 l2 l3 l4 l5 l6 HI
  obtain ⟨X, p, lb, cp, mm, fb, nF, R⟩ := K
  simp only at *
  go_enter Try.func21, Try.ntmps21
  go_wp2_with fail
  refine HM.out.mono ?_; rintro e w1 ⟨rfl, rfl⟩
  clear HM
  go_wp2_with fail
  refine (HL.out _ hR).mono ?_; rintro e w2 ⟨rfl, hb⟩
  have hb0 : Below w1.heap.size w1 w2.drew := bdrew hb
  have hR' := HK.out _ _ hb0 hR
  have q1 := keepc hb0 c1
  have q2 := keepc hb0 r0
  have q3 := keepc hb0 r1
  have q4 := keepc hb0 r2
  have q5 := keepc hb0 r3
  have q6 := keepc hb0 r4
  have q7 := keepc hb0 r5
  have q8 := keepc hb0 r6
  clear hb hR c0 c1 r0 r1 r2 r3 r4 r5 r6
  go_wp2_with fail
  go_region_held3 (fun W' => W'.cell? ⟨X, 1, none⟩ = some (.slice (some ⟨lb, 0, none⟩) C.nC cp) ∧ W'.cell? ⟨lb, i * 7, none⟩ = some (.pointer (some ⟨R i, 0, none⟩)) ∧ W'.cell? ⟨lb, i * 7 + 1, none⟩ = some (.pointer (some ⟨mm, 0, none⟩)) ∧ W'.cell? ⟨lb, i * 7 + 2, none⟩ = some (.int .i64 (frN C i)) ∧ W'.cell? ⟨lb, i * 7 + 3, none⟩ = some (.int .i64 (C.cf i)) ∧ W'.cell? ⟨lb, i * 7 + 4, none⟩ = some (.int .i64 (C.ct i)) ∧ W'.cell? ⟨lb, i * 7 + 5, none⟩ = some (.int .i64 (C.cc i)) ∧ W'.cell? ⟨lb, i * 7 + 6, none⟩ = some (.int .i64 (C.cw i)) ∧ RS (ChS M mm fb nF (frN C i * 32) (winN C i)) (R i) (cN C i) (dN C i) (xs :: L) W' ∧ Below w1.heap.size w1 W')
    (first | ((try go_split_ands); (repeat' apply And.intro) <;> first | assumption | with_reducible first | exact keepc hb (by assumption) | exact HK.out _ _ hb (by assumption) | exact bstep (by assumption) hb | trace_state))
    (first | (go_at_call 46; (try go_split_ands); refine (HX.out _ (by assumption)).mono ?_; rintro e1 w5 ⟨rfl, hb⟩))
  all_goals
    (try go_split_ands)
    go_wp2
    go_ret2
    exact ⟨by first | rfl | simp, by assumption⟩
end Go.Proofs.Ytofkgceenppdbaa
