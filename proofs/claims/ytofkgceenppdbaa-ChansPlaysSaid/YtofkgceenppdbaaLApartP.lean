/- The law ChansApart: two systems of channels beside one another. -/
import Derived.Test.YtofkgceenppdbaaXUnt
import Derived.Test.YtofkgceenppdbaaLList
namespace Go.Proofs.Ytofkgceenppdbaa
open Go.RowKit
set_option linter.unusedVariables false
set_option linter.unusedSimpArgs false
/-- only the channels' words and rings are changed -/
def KeptX (K : CX) (n : Nat) (W W' : World) : Prop := ∃ r, (r = K.fb ∨ ∃ i, i < n ∧ r = K.R i) ∧ Kept2 r K.fb W W'
theorem KeptX.blk {K : CX} {n b : Nat} {W W' : World} {o : Obj} (h : KeptX K n W W') (hb : W.heap[b]? = some o) (h1 : b ≠ K.fb) (h2 : ∀ i, i < n → b ≠ K.R i) : W'.heap[b]? = some o := by
  obtain ⟨r, hr, hk⟩ := h
  refine hk.blk hb ?_ h1
  rcases hr with rfl | ⟨i, hi, rfl⟩
  · exact h1
  · exact h2 i hi
/-- nothing of K's is changed with J's -/
structure Apt (J K : CX) (n : Nat) : Prop where
  fb : K.X ≠ J.fb ∧ K.lb ≠ J.fb ∧ K.mm ≠ J.fb ∧ K.fb ≠ J.fb ∧ ∀ i, i < n → K.R i ≠ J.fb
  R : ∀ j, j < n → K.X ≠ J.R j ∧ K.lb ≠ J.R j ∧ K.mm ≠ J.R j ∧ K.fb ≠ J.R j ∧ ∀ i, i < n → K.R i ≠ J.R j
section
variable {L : Nat} {W W' : World} {C : Cfg} {J K : CX} {LL : Nat → List (List Int)} {M0 : Nat → Int}
theorem Sys.keptX (h : Sys L W C K LL M0) (hk : KeptX J C.nC W W') (ha : Apt J K C.nC) : Sys L W' C K LL M0 := by
  obtain ⟨aa, M, h1, h2⟩ := h.x
  obtain ⟨r, hr, hk⟩ := hk
  refine ⟨⟨aa, M, h1.kept2 hk ?_ ha.fb, h2⟩, h.lo⟩
  rcases hr with rfl | ⟨i, hi, rfl⟩
  · exact ha.fb
  · exact ha.R i hi
theorem sys_send2 (part ch : Int) (q : Option Addr) (xs : List Int) (cap : Nat) (h : Sys L W C K LL M0) (hs : Sl W .u32 q xs.length (fun i => xs.getD i 0)) (hw : ∀ i, i < xs.length → 0 ≤ xs.getD i 0 ∧ xs.getD i 0 < 4294967296)
    (hq : ∀ b o, q = some ⟨b, o, none⟩ → 0 < xs.length → b < L) :
    Calls Try.prog 14 #[.pointer (some ⟨K.X, 0, none⟩), .int .i64 part, .int .i64 ch, .slice q xs.length cap] W fun e W' => e = .returned (.int .i64 (sendE C LL part ch xs.length)) ∧ Sys L W' C K (sendL C LL part ch xs) M0 ∧ Below L W W' ∧ KeptX K C.nC W W' := by
  by_cases hc : ch < 0 ∨ C.nC ≤ ch
  · obtain ⟨aa, M, h1, h2⟩ := h.x
    have e1 := (same_far (C := C) (LL := LL) (part := part) (n := xs.length) hc).1
    have e2 : sendL C LL part ch xs = LL := if_neg (by rw [e1]; decide)
    rw [e1, e2]
    have h4 : mayE C part ch true = 4 := if_pos hc
    have hm := may_x C K aa LL M part ch true W h1
    rw [h4] at hm
    refine (send_err _ part ch 4 q xs.length cap W (by decide) hm).mono ?_
    rintro e w' ⟨rfl, rfl⟩
    exact ⟨rfl, h, Below.refl _ _, K.fb, .inl rfl, Kept2.refl _ _ _⟩
  · refine (sys_send part ch q xs cap h hs hw (fun b o e h0 => h.under (hq b o e h0))).mono ?_
    rintro e w' ⟨rfl, h1, h2, h3⟩
    exact ⟨rfl, h1, h2, _, .inr ⟨ch.toNat, by omega, rfl⟩, h3⟩
theorem sys_recv2 (part ch : Int) (h : Sys L W C K LL M0) :
    Calls Try.prog 15 #[.pointer (some ⟨K.X, 0, none⟩), .int .i64 part, .int .i64 ch] W fun e W' => ∃ a c, e = .returned (.tuple #[.slice a (recvX C LL part ch).length c, .int .i64 (recvE C LL part ch)]) ∧ Sl W' .u32 a (recvX C LL part ch).length (fun i => (recvX C LL part ch).getD i 0) ∧ (∀ b o, a = some ⟨b, o, none⟩ → W.heap.size ≤ b ∧ b < W'.heap.size) ∧ Sys L W' C K (recvL C LL part ch) M0 ∧ Below L W W' ∧ KeptX K C.nC W W' := by
  by_cases hc : ch < 0 ∨ C.nC ≤ ch
  · obtain ⟨aa, M, h1, h2⟩ := h.x
    have e1 := (same_far (C := C) (LL := LL) (part := part) (n := 0) hc).2
    have h4 : mayE C part ch false = 4 := if_pos hc
    have e2 : recvL C LL part ch = LL := if_neg (by rw [h4]; decide)
    have e3 : recvX C LL part ch = [] := if_neg (by rw [h4]; decide)
    rw [e1, e2, e3]
    have hm := may_x C K aa LL M part ch false W h1
    rw [h4] at hm
    refine (recv_err _ part ch 4 W (by decide) hm).mono ?_
    rintro e w' ⟨rfl, rfl⟩
    exact ⟨none, 0, rfl, .inl rfl, (fun b o e => by cases e), h, Below.refl _ _, K.fb, .inl rfl, Kept2.refl _ _ _⟩
  · refine (sys_recv part ch h).mono ?_
    rintro e w' ⟨v, rfl, ho, h1, h2, h3⟩
    obtain ⟨a, c, rfl, h4, h5⟩ := own_sl ho
    exact ⟨a, c, rfl, h4, h5, h1, h2, _, .inr ⟨ch.toNat, by omega, rfl⟩, h3⟩
theorem sys_new2 (C : Cfg) (ly : Lay) (mm fb nF : Nat) (w : World) (hI : IsC w C ly) (hN : Big C) (hm : MemS w mm fb nF (fun _ => 0)) (hF : 1 ≤ nF) (hF3 : nF ≤ 1024) (hE : CkOk C) (hF2 : frE C ≤ nF) (h1 : L ≤ mm) (h2 : L ≤ fb) :
    Calls Try.prog 12 #[.pointer (some ⟨mm, 0, none⟩), .agg (cfgV C ly)] w fun e w' => ∃ K, e = .returned (.tuple #[.pointer (some ⟨K.X, 0, none⟩), .int .i64 0]) ∧ Sys L w' C K (fun _ => []) (fun _ => 0) ∧ (K.mm = mm ∧ K.fb = fb ∧ K.nF = nF) ∧ From w.heap.size K.X K.lb C.nC K.R ∧ IsX w' C K (fun _ => 0) (fun _ => []) (fun _ => 0) ∧ Below w.heap.size w w' := by
  refine (xnew_is C ly mm fb nF (fun _ => 0) w hI hN hm (fun i _ => ⟨by decide, by decide⟩) hF hF3 hE hF2).mono ?_
  rintro e w' ⟨X, p, lb, cap, R, rfl, hx, hf, hb⟩
  have hl := hm.lts
  have hf' := hf
  obtain ⟨f1, f2, f3⟩ := hf
  exact ⟨⟨X, p, lb, cap, mm, fb, nF, R⟩, rfl, ⟨⟨_, _, hx, fun _ _ => rfl⟩, by show L ≤ X; omega, by show L ≤ lb; omega, h1, h2, fun i hi => by have := f3 i hi; show L ≤ R i; omega⟩, ⟨rfl, rfl, rfl⟩, hf', hx, hb⟩
end
section
variable {C : Cfg} {LL1 LL2 : Nat → List (List Int)} {part ch : Int}
theorem may_neg {s : Bool} (h : ch < 0) : mayE C part ch s = 4 := if_pos (.inl h)
theorem sendE_congr {n : Nat} (h : 0 ≤ ch → LL1 ch.toNat = LL2 ch.toNat) : sendE C LL1 part ch n = sendE C LL2 part ch n := by
  unfold sendE
  by_cases h0 : 0 ≤ ch
  · rw [h h0]
  · rw [may_neg (by omega), if_neg (by decide), if_neg (by decide)]
theorem recvE_congr (h : 0 ≤ ch → LL1 ch.toNat = LL2 ch.toNat) : recvE C LL1 part ch = recvE C LL2 part ch := by
  unfold recvE
  by_cases h0 : 0 ≤ ch
  · rw [h h0]
  · rw [may_neg (by omega), if_neg (by decide), if_neg (by decide)]
theorem recvX_congr (h : 0 ≤ ch → LL1 ch.toNat = LL2 ch.toNat) : recvX C LL1 part ch = recvX C LL2 part ch := by
  unfold recvX
  by_cases h0 : 0 ≤ ch
  · rw [h h0]
  · rw [may_neg (by omega), if_neg (by decide), if_neg (by decide)]
theorem sendL_congr {xs : List Int} (h : 0 ≤ ch → LL1 ch.toNat = LL2 ch.toNat) (h0 : 0 ≤ ch) : sendL C LL1 part ch xs ch.toNat = sendL C LL2 part ch xs ch.toNat := by
  unfold sendL
  rw [sendE_congr h, h h0]
  split
  · rw [updL_at, updL_at]
  · exact h h0
theorem recvL_congr (h : 0 ≤ ch → LL1 ch.toNat = LL2 ch.toNat) (h0 : 0 ≤ ch) : recvL C LL1 part ch ch.toNat = recvL C LL2 part ch ch.toNat := by
  unfold recvL
  rw [h h0]
  split
  · rw [updL_at, updL_at]
  · exact h h0
theorem sendL_far {xs : List Int} {only : Int} (h : ch ≠ only) (h0 : 0 ≤ only) : sendL C LL1 part ch xs only.toNat = LL1 only.toNat := by
  unfold sendL
  by_cases hc : ch < 0
  · have : sendE C LL1 part ch xs.length = 4 := by unfold sendE; rw [may_neg hc, if_neg (by decide)]
    rw [if_neg (by rw [this]; decide)]
  · split
    · exact if_neg (by omega)
    · rfl
theorem recvL_far {only : Int} (h : ch ≠ only) (h0 : 0 ≤ only) : recvL C LL1 part ch only.toNat = LL1 only.toNat := by
  unfold recvL
  by_cases hc : ch < 0
  · rw [if_neg (by rw [may_neg hc]; decide)]
  · split
    · exact if_neg (by omega)
    · rfl
end
/-- the memory while the law writes -/
def mk99 (k : Nat) : Nat → Int := fun j => if j % 32 = 7 ∧ j / 32 < k then 99 else 0
theorem mk99_zero : mk99 0 = fun _ => 0 := by
  funext j
  exact if_neg (by omega)
theorem mk99_succ (k : Nat) : updM (mk99 k) (k * 32 + 7) 99 = mk99 (k + 1) := by
  funext j
  unfold updM mk99
  by_cases h : j = k * 32 + 7
  · rw [if_pos h, if_pos (by omega)]
  · rw [if_neg h]
    by_cases h2 : j % 32 = 7 ∧ j / 32 < k
    · rw [if_pos h2, if_pos (by omega)]
    · rw [if_neg h2, if_neg (by omega)]
theorem mk99_end {j : Nat} (h : j < 1024 * 32) : mk99 1024 j = m99 j := by
  unfold mk99 m99
  by_cases h2 : j % 32 = 7
  · rw [if_pos ⟨h2, by omega⟩, if_pos h2]
  · rw [if_neg (fun h => h2 h.1), if_neg h2]
/-- the channels are empty: the memory may be anything -/
theorem IsX.write {k : Nat} {W W' : World} {C : Cfg} {K : CX} {aa : Nat → Nat} {M : Nat → Int} (h1 : IsX W C K aa (fun _ => []) M) (hm : MemS W' K.mm K.fb K.nF (mk99 k)) (hk : Kept K.fb W W') : IsX W' C K aa (fun _ => []) (mk99 k) := by
  refine ⟨h1.ck, h1.nF, h1.ok, hk.blk h1.hX h1.ok.fb.1.symm, h1.hp, fun i hi r hr => hk.cell (h1.row i hi r hr) h1.ok.fb.2.1.symm, hm, fun i _ => ?_, fun i hi => hk.blk (h1.ring i hi) (h1.ok.R i hi).2.1, fun i hi => ⟨Lies.nil _ _ _ _, (h1.lies i hi).2⟩⟩
  unfold mk99
  split <;> decide
end Go.Proofs.Ytofkgceenppdbaa
