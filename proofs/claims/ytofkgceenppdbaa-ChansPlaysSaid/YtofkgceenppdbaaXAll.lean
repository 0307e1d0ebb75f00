/- chans: what Send, Recv, Next, Room, Words answer, whatever they are asked. -/
import Derived.Test.YtofkgceenppdbaaXCall
namespace Go.Proofs.Ytofkgceenppdbaa
open Go.RowKit
set_option linter.unusedVariables false
set_option linter.unusedSimpArgs false
theorem own_inil {w : World} {B e : Nat} {q : IntKind} : w.ownsInts B e q (.slice none 0 0) [] := ⟨⟨by simp, .inl ⟨rfl, by simp⟩⟩, by simp⟩
/-- what Send answers, and what is sent then -/
def sendE (C : Cfg) (LL : Nat → List (List Int)) (part ch : Int) (n : Nat) : Int :=
  if mayE C part ch true = 0 then if n < 1 ∨ dN C ch.toNat < n then 2 else if (LL ch.toNat).length = cN C ch.toNat then 12 else 0 else mayE C part ch true
def sendL (C : Cfg) (LL : Nat → List (List Int)) (part ch : Int) (xs : List Int) : Nat → List (List Int) :=
  if sendE C LL part ch xs.length = 0 then updL LL ch.toNat (LL ch.toNat ++ [xs]) else LL
def recvE (C : Cfg) (LL : Nat → List (List Int)) (part ch : Int) : Int := if mayE C part ch false = 0 then if LL ch.toNat = [] then 12 else 0 else mayE C part ch false
def recvX (C : Cfg) (LL : Nat → List (List Int)) (part ch : Int) : List Int := if mayE C part ch false = 0 then (LL ch.toNat).headD [] else []
def recvL (C : Cfg) (LL : Nat → List (List Int)) (part ch : Int) : Nat → List (List Int) := if mayE C part ch false = 0 then updL LL ch.toNat (LL ch.toNat).tail else LL
def roomE (C : Cfg) (LL : Nat → List (List Int)) (ch : Int) : Int := if ch < 0 ∨ C.nC ≤ ch then 0 else C.cc ch.toNat - (LL ch.toNat).length
def wordsE (C : Cfg) (ch : Int) : Int := if ch < 0 ∨ C.nC ≤ ch then 0 else C.cw ch.toNat
theorem mayE_cases (C : Cfg) (part ch : Int) (s : Bool) : mayE C part ch s = 4 ∨ mayE C part ch s = 8 ∨ (mayE C part ch s = 0 ∧ 0 ≤ ch ∧ ch < C.nC ∧ part = if s then C.cf ch.toNat else C.ct ch.toNat) := by
  unfold mayE
  by_cases h : ch < 0 ∨ C.nC ≤ ch
  · rw [if_pos h]; exact .inl rfl
  · rw [if_neg h]
    split
    · exact .inr (.inl rfl)
    · rename_i h2
      refine .inr (.inr ⟨rfl, by omega, by omega, ?_⟩)
      cases s <;> simp at h2 ⊢ <;> exact h2
theorem updL_self (LL : Nat → List (List Int)) (i : Nat) : updL LL i (LL i) = LL := by
  funext j
  unfold updL
  split
  · rename_i h; rw [h]
  · rfl
section
variable {C : Cfg} {K : CX} {aa : Nat → Nat} {LL : Nat → List (List Int)} {M : Nat → Int}
/-- the channels behind a call -/
def Behind (C : Cfg) (K : CX) (LL' : Nat → List (List Int)) (M : Nat → Int) (ch : Int) (w w' : World) : Prop :=
  ∃ aa' M', IsX w' C K aa' LL' M' ∧ Kept2 (K.R ch.toNat) K.fb w w' ∧ ∀ j, ¬ inWin C j → M' j = M j
theorem behind_same {w w' : World} (h : IsX w C K aa LL M) (ch : Int) (hb : Below w.heap.size w w') : Behind C K LL M ch w w' := ⟨aa, M, h.below hb, Kept2.of_below hb, fun _ _ => rfl⟩
theorem xsend (part ch : Int) (q : Option Addr) (xs : List Int) (cap : Nat) (w : World) (h : IsX w C K aa LL M) (hs : Sl w .u32 q xs.length (fun i => xs.getD i 0)) (hw : ∀ i, i < xs.length → 0 ≤ xs.getD i 0 ∧ xs.getD i 0 < 4294967296)
    (hq : ∀ b o, q = some ⟨b, o, none⟩ → 0 < xs.length → b ≠ K.fb ∧ ∀ i, i < C.nC → b ≠ K.R i) :
    Calls Try.prog 14 #[.pointer (some ⟨K.X, 0, none⟩), .int .i64 part, .int .i64 ch, .slice q xs.length cap] w fun e w' => e = .returned (.int .i64 (sendE C LL part ch xs.length)) ∧ Behind C K (sendL C LL part ch xs) M ch w w' := by
  have hne : mayE C part ch true ≠ 0 → Calls Try.prog 14 #[.pointer (some ⟨K.X, 0, none⟩), .int .i64 part, .int .i64 ch, .slice q xs.length cap] w fun e w' => e = .returned (.int .i64 (sendE C LL part ch xs.length)) ∧ Behind C K (sendL C LL part ch xs) M ch w w' := by
    intro hne
    have e1 : sendE C LL part ch xs.length = mayE C part ch true := if_neg hne
    have e2 : sendL C LL part ch xs = LL := if_neg (by rw [e1]; exact hne)
    rw [e1, e2]
    refine (send_err _ part ch _ q xs.length cap w hne (may_x C K aa LL M part ch true w h)).mono ?_
    rintro e w' ⟨rfl, rfl⟩
    exact ⟨rfl, behind_same h ch (Below.refl _ _)⟩
  rcases mayE_cases C part ch true with h4 | h4 | ⟨h0, h1, h2, hp⟩
  · exact hne (by omega)
  · exact hne (by omega)
  clear hne
  obtain ⟨i, rfl⟩ : ∃ i : Nat, ch = i := ⟨ch.toNat, by omega⟩
  have hi : i < C.nC := by omega
  rw [Int.toNat_natCast] at hp
  simp only [if_pos] at hp
  subst hp
  obtain ⟨l1, l2, l3, l4, l5, l6⟩ := cN_eq h.ck hi
  have hl := (h.lies i hi).2.2
  have e0 : sendE C LL (C.cf i) i xs.length = if xs.length < 1 ∨ dN C i < xs.length then 2 else if (LL i).length = cN C i then 12 else 0 := by
    unfold sendE
    rw [if_pos h0, Int.toNat_natCast]
  by_cases ha : xs.length < 1 ∨ dN C i < xs.length
  · have e1 : sendE C LL (C.cf i) i xs.length = 2 := by rw [e0, if_pos ha]
    have e2 : sendL C LL (C.cf i) i xs = LL := if_neg (by rw [e1]; decide)
    rw [e1, e2]
    refine (send_go C K aa LL M i q xs.length cap w (fun E w' => E = 2 ∧ Below w.heap.size w w') h hi ((rs_arg (cN C i) (dN C i) (LL i) q xs.length cap _ _ _ w (h.rs hi) l3 ha).mono fun e w' h => ⟨_, h.1, rfl, h.2⟩)).mono ?_
    rintro e w' ⟨E, rfl, rfl, hb⟩
    exact ⟨rfl, behind_same h _ hb⟩
  by_cases hf : (LL i).length = cN C i
  · have e1 : sendE C LL (C.cf i) i xs.length = 12 := by rw [e0, if_neg ha, if_pos hf]
    have e2 : sendL C LL (C.cf i) i xs = LL := if_neg (by rw [e1]; decide)
    rw [e1, e2]
    refine (send_go C K aa LL M i q xs.length cap w (fun E w' => E = 12 ∧ Below w.heap.size w w') h hi ((rs_full (cN C i) (dN C i) (LL i) q xs.length cap _ _ _ w (h.rs hi) hf l3 (by omega) (by omega)).mono fun e w' h => ⟨_, h.1, rfl, h.2⟩)).mono ?_
    rintro e w' ⟨E, rfl, rfl, hb⟩
    exact ⟨rfl, behind_same h _ hb⟩
  have e1 : sendE C LL (C.cf i) i xs.length = 0 := by rw [e0, if_neg ha, if_neg hf]
  have e2 : sendL C LL (C.cf i) i xs = updL LL i (LL i ++ [xs]) := by
    unfold sendL
    rw [if_pos e1, Int.toNat_natCast]
  rw [e1, e2]
  rcases hs with hs | ⟨b, o, rfl, hc⟩
  · omega
  obtain ⟨q1, q2⟩ := hq b o rfl (by omega)
  have hW72 := (winN_le h.ck hi).2
  refine (send_go C K aa LL M i _ xs.length cap w (fun E w' => E = 0 ∧ RS (ChS M K.mm K.fb K.nF (frN C i * 32) (winN C i)) (K.R i) (cN C i) (dN C i) (LL i ++ [xs]) w' ∧ Kept2 (K.R i) K.fb w w') h hi ((rs_send (h.keeps hi M) (cN C i) (dN C i) b o cap (LL i) xs w l3 l4 l6 (Nat.le_refl _) (by omega) (h.rs hi) (by omega) (by omega) (by omega) q1 (q2 i hi) hc hw).mono fun e w' h => ⟨_, h.1, rfl, h.2⟩)).mono ?_
  rintro e w' ⟨E, rfl, rfl, hr, hk⟩
  obtain ⟨a, M', g1, g2⟩ := h.put hi hr hk
  refine ⟨rfl, _, M', g1, ?_, g2⟩
  rw [Int.toNat_natCast]
  exact hk
theorem xrecv (part ch : Int) (w : World) (h : IsX w C K aa LL M) :
    Calls Try.prog 15 #[.pointer (some ⟨K.X, 0, none⟩), .int .i64 part, .int .i64 ch] w fun e w' => ∃ v, e = .returned (.tuple #[v, .int .i64 (recvE C LL part ch)]) ∧ w'.ownsInts w.heap.size 40 .u32 v (recvX C LL part ch) ∧ Behind C K (recvL C LL part ch) M ch w w' := by
  have hne : mayE C part ch false ≠ 0 → Calls Try.prog 15 #[.pointer (some ⟨K.X, 0, none⟩), .int .i64 part, .int .i64 ch] w fun e w' => ∃ v, e = .returned (.tuple #[v, .int .i64 (recvE C LL part ch)]) ∧ w'.ownsInts w.heap.size 40 .u32 v (recvX C LL part ch) ∧ Behind C K (recvL C LL part ch) M ch w w' := by
    intro hne
    have e1 : recvE C LL part ch = mayE C part ch false := if_neg hne
    have e2 : recvL C LL part ch = LL := if_neg hne
    have e3 : recvX C LL part ch = [] := if_neg hne
    rw [e1, e2, e3]
    refine (recv_err _ part ch _ w hne (may_x C K aa LL M part ch false w h)).mono ?_
    rintro e w' ⟨rfl, rfl⟩
    exact ⟨_, rfl, own_inil, behind_same h ch (Below.refl _ _)⟩
  rcases mayE_cases C part ch false with h4 | h4 | ⟨h0, h1, h2, hp⟩
  · exact hne (by omega)
  · exact hne (by omega)
  clear hne
  obtain ⟨i, rfl⟩ : ∃ i : Nat, ch = i := ⟨ch.toNat, by omega⟩
  have hi : i < C.nC := by omega
  rw [Int.toNat_natCast] at hp
  simp only [Bool.false_eq_true, if_false] at hp
  subst hp
  obtain ⟨l1, l2, l3, l4, l5, l6⟩ := cN_eq h.ck hi
  have hW72 := (winN_le h.ck hi).2
  have e1 : recvE C LL (C.ct i) i = if LL i = [] then 12 else 0 := by unfold recvE; rw [if_pos h0, Int.toNat_natCast]
  have e2 : recvL C LL (C.ct i) i = updL LL i (LL i).tail := by unfold recvL; rw [if_pos h0, Int.toNat_natCast]
  have e3 : recvX C LL (C.ct i) i = (LL i).headD [] := by unfold recvX; rw [if_pos h0, Int.toNat_natCast]
  rw [e1, e2, e3]
  have hr := h.rs hi
  rcases hL : LL i with _ | ⟨xs, L⟩
  · rw [hL] at hr
    refine (recv_go C K aa LL M i w (fun v E w' => v = .slice none 0 0 ∧ E = 12 ∧ w' = w) h hi ((rs_empty (cN C i) (dN C i) _ _ _ w hr l3).mono fun e w' h => ⟨_, _, h.1, rfl, rfl, h.2⟩)).mono ?_
    rintro e w' ⟨v, E, rfl, rfl, rfl, rfl⟩
    refine ⟨_, by rw [if_pos rfl], own_inil, ?_⟩
    have e4 : updL LL i [] = LL := by
      have := updL_self LL i
      rw [hL] at this
      exact this
    rw [List.tail_nil, e4]
    exact behind_same h _ (Below.refl _ _)
  · rw [hL] at hr
    refine (recv_go C K aa LL M i w (fun v E w' => E = 0 ∧ w'.ownsInts w.heap.size 40 .u32 v xs ∧ RS (ChS M K.mm K.fb K.nF (frN C i * 32) (winN C i)) (K.R i) (cN C i) (dN C i) L w' ∧ Kept (K.R i) w w') h hi ((rs_recv (h.keeps hi M) (cN C i) (dN C i) L xs w l3 l4 l5 l6 (Nat.le_refl _) (by omega) hr).mono ?_)).mono ?_
    · rintro e w' ⟨v, rfl, h⟩
      exact ⟨v, 0, rfl, rfl, h⟩
    · rintro e w' ⟨v, E, rfl, rfl, ho, hr', hk⟩
      obtain ⟨a, M', g1, g2⟩ := h.put hi hr' hk.two1
      refine ⟨v, by rw [if_neg (by simp)], ho, _, M', g1, ?_, g2⟩
      rw [Int.toNat_natCast]
      exact hk.two1
theorem xnext (part ch : Int) (w : World) (h : IsX w C K aa LL M) :
    Calls Try.prog 21 #[.pointer (some ⟨K.X, 0, none⟩), .int .i64 part, .int .i64 ch] w fun e w' => e = .returned (.tuple #[.int .i64 (recvX C LL part ch).length, .int .i64 (recvE C LL part ch)]) ∧ Below w.heap.size w w' := by
  have hne : mayE C part ch false ≠ 0 → Calls Try.prog 21 #[.pointer (some ⟨K.X, 0, none⟩), .int .i64 part, .int .i64 ch] w fun e w' => e = .returned (.tuple #[.int .i64 (recvX C LL part ch).length, .int .i64 (recvE C LL part ch)]) ∧ Below w.heap.size w w' := by
    intro hne
    have e1 : recvE C LL part ch = mayE C part ch false := if_neg hne
    have e3 : recvX C LL part ch = [] := if_neg hne
    rw [e1, e3]
    refine (next_err _ part ch _ w hne (may_x C K aa LL M part ch false w h)).mono ?_
    rintro e w' ⟨rfl, rfl⟩
    exact ⟨rfl, Below.refl _ _⟩
  rcases mayE_cases C part ch false with h4 | h4 | ⟨h0, h1, h2, hp⟩
  · exact hne (by omega)
  · exact hne (by omega)
  clear hne
  obtain ⟨i, rfl⟩ : ∃ i : Nat, ch = i := ⟨ch.toNat, by omega⟩
  have hi : i < C.nC := by omega
  rw [Int.toNat_natCast] at hp
  simp only [Bool.false_eq_true, if_false] at hp
  subst hp
  have e1 : recvE C LL (C.ct i) i = if LL i = [] then 12 else 0 := by unfold recvE; rw [if_pos h0, Int.toNat_natCast]
  have e3 : recvX C LL (C.ct i) i = (LL i).headD [] := by unfold recvX; rw [if_pos h0, Int.toNat_natCast]
  rw [e1, e3]
  rcases hL : LL i with _ | ⟨xs, L⟩
  · rw [if_pos rfl]
    exact next_none C K aa LL M i w h hi hL
  · rw [if_neg (by simp)]
    exact next_one C K aa LL M i xs L w h hi hL
theorem xroom (ch : Int) (w : World) (h : IsX w C K aa LL M) :
    Calls Try.prog 20 #[.pointer (some ⟨K.X, 0, none⟩), .int .i64 ch] w fun e w' => e = .returned (.int .i64 (roomE C LL ch)) ∧ Below w.heap.size w w' := by
  unfold roomE
  by_cases hc : ch < 0 ∨ C.nC ≤ ch
  · rw [if_pos hc]
    refine (room_no K.X C.nC K.cap true K.p ch w h.hX hc).mono ?_
    rintro e w' ⟨rfl, rfl⟩
    exact ⟨rfl, Below.refl _ _⟩
  · rw [if_neg hc]
    obtain ⟨i, rfl⟩ : ∃ i : Nat, ch = i := ⟨ch.toNat, by omega⟩
    rw [Int.toNat_natCast]
    exact room_x C K aa LL M i w h (by omega)
theorem xwords (ch : Int) (w : World) (h : IsX w C K aa LL M) :
    Calls Try.prog 28 #[.pointer (some ⟨K.X, 0, none⟩), .int .i64 ch] w fun e w' => e = .returned (.int .i64 (wordsE C ch)) ∧ Below w.heap.size w w' := by
  unfold wordsE
  by_cases hc : ch < 0 ∨ C.nC ≤ ch
  · rw [if_pos hc]
    refine (words_no K.X C.nC K.cap true K.p ch w h.hX hc).mono ?_
    rintro e w' ⟨rfl, rfl⟩
    exact ⟨rfl, Below.refl _ _⟩
  · rw [if_neg hc]
    obtain ⟨i, rfl⟩ : ∃ i : Nat, ch = i := ⟨ch.toNat, by omega⟩
    rw [Int.toNat_natCast]
    refine (words_x C K aa LL M i w h (by omega)).mono ?_
    rintro e w' ⟨rfl, rfl⟩
    exact ⟨rfl, Below.refl _ _⟩
end
end Go.Proofs.Ytofkgceenppdbaa
