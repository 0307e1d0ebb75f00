/- chans as a law sees them: made behind a place, their messages; and the law's own example. -/
import Derived.Test.YtofkgceenppdbaaXNew
import Derived.Test.YtofkgceenppdbaaXAll
namespace Go.Proofs.Ytofkgceenppdbaa
open Go.RowKit
set_option linter.unusedVariables false
set_option linter.unusedSimpArgs false
/-- channels made behind L -/
structure Sys (L : Nat) (W : World) (C : Cfg) (K : CX) (LL : Nat → List (List Int)) (M0 : Nat → Int) : Prop where
  x : ∃ aa M, IsX W C K aa LL M ∧ ∀ j, ¬ inWin C j → M j = M0 j
  lo : L ≤ K.X ∧ L ≤ K.lb ∧ L ≤ K.mm ∧ L ≤ K.fb ∧ ∀ i, i < C.nC → L ≤ K.R i
section
variable {L : Nat} {W W' : World} {C : Cfg} {K : CX} {LL : Nat → List (List Int)} {M0 : Nat → Int}
theorem Sys.below (h : Sys L W C K LL M0) (hb : Below W.heap.size W W') : Sys L W' C K LL M0 := by
  obtain ⟨aa, M, h1, h2⟩ := h.x
  exact ⟨⟨aa, M, h1.below hb, h2⟩, h.lo⟩
theorem Sys.size (h : Sys L W C K LL M0) : L < W.heap.size := by
  obtain ⟨aa, M, h1, h2⟩ := h.x
  have := bk_lt h1.hX
  have := h.lo
  omega
theorem Sys.fresh (h : Sys L W C K LL M0) {b : Nat} (hb : W.heap.size ≤ b) : b ≠ K.fb ∧ ∀ i, i < C.nC → b ≠ K.R i := by
  obtain ⟨aa, M, h1, h2⟩ := h.x
  have := h1.mem.lts
  refine ⟨by omega, fun i hi => ?_⟩
  have := bk_lt (h1.ring i hi)
  omega
theorem Sys.under (h : Sys L W C K LL M0) {b : Nat} (hb : b < L) : b ≠ K.fb ∧ ∀ i, i < C.nC → b ≠ K.R i := by
  have := h.lo
  refine ⟨by omega, fun i hi => ?_⟩
  have := h.lo.2.2.2.2 i hi
  omega
theorem Sys.behind {part ch : Int} {LL' : Nat → List (List Int)} {M : Nat → Int} (h : Sys L W C K LL M0) (h2 : ∀ j, ¬ inWin C j → M j = M0 j) (hB : Behind C K LL' M ch W W') (hs : (ch < 0 ∨ C.nC ≤ ch) → Below W.heap.size W W') :
    Sys L W' C K LL' M0 ∧ Below L W W' := by
  obtain ⟨aa', M', h3, h4, h5⟩ := hB
  refine ⟨⟨⟨aa', M', h3, fun j hj => (h5 j hj).trans (h2 j hj)⟩, h.lo⟩, ?_⟩
  have hl := h.lo
  by_cases hc : ch < 0 ∨ C.nC ≤ ch
  · exact (hs hc).mono (Nat.le_of_lt h.size)
  · exact h4.below (Below.refl _ _) (hl.2.2.2.2 _ (by omega)) hl.2.2.2.1 (Nat.le_of_lt h.size)
end
theorem same_far {C : Cfg} {LL : Nat → List (List Int)} {part ch : Int} {n : Nat} : (ch < 0 ∨ C.nC ≤ ch) → sendE C LL part ch n = 4 ∧ recvE C LL part ch = 4 := by
  intro h
  have h1 : ∀ s, mayE C part ch s = 4 := fun s => if_pos h
  unfold sendE recvE
  rw [h1, h1]
  exact ⟨if_neg (by decide), if_neg (by decide)⟩
section
variable {L : Nat} {W : World} {C : Cfg} {K : CX} {LL : Nat → List (List Int)} {M0 : Nat → Int}
theorem sys_send (part ch : Int) (q : Option Addr) (xs : List Int) (cap : Nat) (h : Sys L W C K LL M0) (hs : Sl W .u32 q xs.length (fun i => xs.getD i 0)) (hw : ∀ i, i < xs.length → 0 ≤ xs.getD i 0 ∧ xs.getD i 0 < 4294967296)
    (hq : ∀ b o, q = some ⟨b, o, none⟩ → 0 < xs.length → b ≠ K.fb ∧ ∀ i, i < C.nC → b ≠ K.R i) :
    Calls Try.prog 14 #[.pointer (some ⟨K.X, 0, none⟩), .int .i64 part, .int .i64 ch, .slice q xs.length cap] W fun e W' => e = .returned (.int .i64 (sendE C LL part ch xs.length)) ∧ Sys L W' C K (sendL C LL part ch xs) M0 ∧ Below L W W' ∧ Kept2 (K.R ch.toNat) K.fb W W' := by
  obtain ⟨aa, M, h1, h2⟩ := h.x
  by_cases hc : ch < 0 ∨ C.nC ≤ ch
  · have e1 := (same_far (C := C) (LL := LL) (part := part) (n := xs.length) hc).1
    have e2 : sendL C LL part ch xs = LL := if_neg (by rw [e1]; decide)
    rw [e1, e2]
    have h4 : mayE C part ch true = 4 := if_pos hc
    have hm := may_x C K aa LL M part ch true W h1
    rw [h4] at hm
    refine (send_err _ part ch 4 q xs.length cap W (by decide) hm).mono ?_
    rintro e w' ⟨rfl, rfl⟩
    exact ⟨rfl, h, Below.refl _ _, Kept2.refl _ _ _⟩
  · refine (xsend part ch q xs cap W h1 hs hw hq).mono ?_
    rintro e w' ⟨rfl, hB⟩
    have hB2 := hB
    obtain ⟨_, _, _, hk, _⟩ := hB2
    obtain ⟨g1, g2⟩ := h.behind (part := part) h2 hB (fun h => absurd h hc)
    exact ⟨rfl, g1, g2, hk⟩
theorem sys_recv (part ch : Int) (h : Sys L W C K LL M0) :
    Calls Try.prog 15 #[.pointer (some ⟨K.X, 0, none⟩), .int .i64 part, .int .i64 ch] W fun e W' => ∃ v, e = .returned (.tuple #[v, .int .i64 (recvE C LL part ch)]) ∧ W'.ownsInts W.heap.size 40 .u32 v (recvX C LL part ch) ∧ Sys L W' C K (recvL C LL part ch) M0 ∧ Below L W W' ∧ Kept2 (K.R ch.toNat) K.fb W W' := by
  obtain ⟨aa, M, h1, h2⟩ := h.x
  by_cases hc : ch < 0 ∨ C.nC ≤ ch
  · have e1 := (same_far (C := C) (LL := LL) (part := part) (n := 0) hc).2
    have h4 : mayE C part ch false = 4 := if_pos hc
    have e2 : recvL C LL part ch = LL := if_neg (by rw [h4]; decide)
    have e3 : recvX C LL part ch = [] := if_neg (by rw [h4]; decide)
    rw [e1, e2, e3]
    have hm := may_x C K aa LL M part ch false W h1
    rw [h4] at hm
    refine (recv_err _ part ch 4 W (by decide) hm).mono ?_
    rintro e w' ⟨rfl, rfl⟩
    exact ⟨_, rfl, own_inil, h, Below.refl _ _, Kept2.refl _ _ _⟩
  · refine (xrecv part ch W h1).mono ?_
    rintro e w' ⟨v, rfl, ho, hB⟩
    have hB2 := hB
    obtain ⟨_, _, _, hk, _⟩ := hB2
    obtain ⟨g1, g2⟩ := h.behind (part := part) h2 hB (fun h => absurd h hc)
    exact ⟨v, rfl, ho, g1, g2, hk⟩
theorem sys_next (part ch : Int) (h : Sys L W C K LL M0) :
    Calls Try.prog 21 #[.pointer (some ⟨K.X, 0, none⟩), .int .i64 part, .int .i64 ch] W fun e W' => e = .returned (.tuple #[.int .i64 (recvX C LL part ch).length, .int .i64 (recvE C LL part ch)]) ∧ Below W.heap.size W W' := by
  obtain ⟨aa, M, h1, h2⟩ := h.x
  exact xnext part ch W h1
theorem sys_room (ch : Int) (h : Sys L W C K LL M0) :
    Calls Try.prog 20 #[.pointer (some ⟨K.X, 0, none⟩), .int .i64 ch] W fun e W' => e = .returned (.int .i64 (roomE C LL ch)) ∧ Below W.heap.size W W' := by
  obtain ⟨aa, M, h1, h2⟩ := h.x
  exact xroom ch W h1
theorem sys_words (ch : Int) (h : Sys L W C K LL M0) :
    Calls Try.prog 28 #[.pointer (some ⟨K.X, 0, none⟩), .int .i64 ch] W fun e W' => e = .returned (.int .i64 (wordsE C ch)) ∧ Below W.heap.size W W' := by
  obtain ⟨aa, M, h1, h2⟩ := h.x
  exact xwords ch W h1
theorem sys_may (part ch : Int) (s : Bool) (h : Sys L W C K LL M0) :
    Calls Try.prog 25 #[.pointer (some ⟨K.X, 0, none⟩), .int .i64 part, .int .i64 ch, .bool s] W fun e W' => e = .returned (.int .i64 (mayE C part ch s)) ∧ Below W.heap.size W W' := by
  obtain ⟨aa, M, h1, h2⟩ := h.x
  refine (may_x C K aa LL M part ch s W h1).mono ?_
  rintro e w' ⟨rfl, rfl⟩
  exact ⟨rfl, Below.refl _ _⟩
theorem sys_new (C : Cfg) (ly : Lay) (mm fb nF : Nat) (w : World) (hI : IsC w C ly) (hN : Big C) (hm : MemS w mm fb nF (fun _ => 0)) (hF : 1 ≤ nF) (hF3 : nF ≤ 1024) (hE : CkOk C) (hF2 : frE C ≤ nF) (h1 : L ≤ mm) (h2 : L ≤ fb) :
    Calls Try.prog 12 #[.pointer (some ⟨mm, 0, none⟩), .agg (cfgV C ly)] w fun e w' => ∃ K, e = .returned (.tuple #[.pointer (some ⟨K.X, 0, none⟩), .int .i64 0]) ∧ Sys L w' C K (fun _ => []) (fun _ => 0) ∧ (K.mm = mm ∧ K.fb = fb ∧ K.nF = nF) ∧ Below w.heap.size w w' := by
  refine (xnew_is C ly mm fb nF (fun _ => 0) w hI hN hm (fun i _ => ⟨by decide, by decide⟩) hF hF3 hE hF2).mono ?_
  rintro e w' ⟨X, p, lb, cap, R, rfl, hx, hf, hb⟩
  have hl := hm.lts
  obtain ⟨f1, f2, f3⟩ := hf
  exact ⟨⟨X, p, lb, cap, mm, fb, nF, R⟩, rfl, ⟨⟨_, _, hx, fun _ _ => rfl⟩, by show L ≤ X; omega, by show L ≤ lb; omega, h1, h2, fun i hi => by have := f3 i hi; show L ≤ R i; omega⟩, ⟨rfl, rfl, rfl⟩, hb⟩
end
end Go.Proofs.Ytofkgceenppdbaa
