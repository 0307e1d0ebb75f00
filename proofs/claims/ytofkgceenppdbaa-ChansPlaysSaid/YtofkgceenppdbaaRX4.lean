/- The reference's Send and Recv of channels: what they are made of. -/
import Derived.Test.YtofkgceenppdbaaRX3
import Derived.Test.YtofkgceenppdbaaLOrdP
namespace Go.Proofs.Ytofkgceenppdbaa
open Go.RowKit
set_option linter.unusedVariables false
set_option linter.unusedSimpArgs false
def upd' {α : Type} (f : Nat → α) (i : Nat) (x : α) : Nat → α := fun j => if j = i then x else f j
theorem RefY.put {w W : World} {P : Nat → Prop} {C : Cfg} {p : Option Addr} {b cap : Nat} {q : Nat → Option Addr} {cp out : Nat → Nat} {V : Nat → List Value} {t t' : Nat} {LL : Nat → List (List Int)} (h : RefY w P C p b cap q cp out V t LL)
    {i b1 c1 cp' o' : Nat} {q' : Option Addr} {V' : List Value} {L' : List (List Int)} (hi : i < C.nC) (hb1 : P b1) (hc1 : C.nC ≤ c1)
    (row : ∀ j, j < C.nC → ∀ r, r < 4 → W.cell? ⟨b1, j * 4 + r, none⟩ = some (if j = i then rf C (fun _ => q') (fun _ => L'.length) (fun _ => cp') (fun _ => o') i r else rf C q (fun i => (LL i).length) cp out j r))
    (hm : Msgs W P q' cp' V' L') (hold : ∀ j, j < C.nC → Msgs W P (q j) (cp j) (V j) (LL j)) (ho : o' ≤ t') (ht : t ≤ t') (hl : L'.length ≤ cN C i) :
    RefY W P C (some ⟨b1, 0, none⟩) b1 c1 (upd' q i q') (upd' cp i cp') (upd' out i o') (upd' V i V') t' (updL LL i L') := by
  refine ⟨fun _ => ⟨rfl, hb1⟩, hc1, (fun e => by cases e), fun j hj r hr => ?_, fun j hj => ?_, fun j hj => ?_, fun j hj => ?_⟩
  · rw [row j hj r hr]
    congr 1
    by_cases e : j = i
    · subst e
      rw [if_pos rfl]
      unfold rf upd' updL
      simp
    · rw [if_neg e]
      unfold rf upd' updL
      simp [e]
  · unfold upd'
    by_cases e : j = i
    · rw [if_pos e]; exact ho
    · rw [if_neg e]; have := h.out j hj; omega
  · unfold upd' updL
    by_cases e : j = i
    · simp only [if_pos e]; exact hm
    · simp only [if_neg e]; exact hold j hj
  · unfold updL
    by_cases e : j = i
    · rw [if_pos e, e]; exact hl
    · rw [if_neg e]; exact h.le j hj
/-- behind Lg, and not g -/
def RP (Lg g b : Nat) : Prop := Lg ≤ b ∧ b ≠ g
theorem RP.not {Lg g : Nat} : ¬ RP Lg g g := fun h => h.2 rfl
/-- the reference's channels -/
def RefX (w : World) (g Lg : Nat) (C : Cfg) (pC : Option Addr) (cC t : Nat) (LL : Nat → List (List Int)) : Prop :=
  Lg ≤ g ∧ ∃ p b cap q cp out V, w.heap[g]? = some (.cells #[.slice pC C.nC cC, .slice p C.nC cap] 61 (0, 0)) ∧ RefY w (RP Lg g) C p b cap q cp out V t LL
/-- four cells put into a row -/
theorem put4 {W : World} {b i n : Nat} {cur : Array Value} {ty : TypeId} {F : Nat → Nat → Value} {x0 x1 x2 x3 : Value} (hb : W.heap[b]? = some (.cells cur ty (0, 0))) (hs : n * 4 ≤ cur.size) (hi : i < n)
    (row : ∀ j, j < n → ∀ r, r < 4 → W.cell? ⟨b, j * 4 + r, none⟩ = some (F j r)) :
    ∀ j, j < n → ∀ r, r < 4 → ((((W.setCell ⟨b, i * 4, none⟩ x0).setCell ⟨b, i * 4 + 1, none⟩ x1).setCell ⟨b, i * 4 + 2, none⟩ x2).setCell ⟨b, i * 4 + 3, none⟩ x3).cell? ⟨b, j * 4 + r, none⟩ =
      some (if j = i then (if r = 0 then x0 else if r = 1 then x1 else if r = 2 then x2 else x3) else F j r) := by
  intro j hj r hr
  have h4 := bk_set (bk_set (bk_set (bk_set hb (i * 4) x0) (i * 4 + 1) x1) (i * 4 + 2) x2) (i * 4 + 3) x3
  rw [bk_cell h4]
  have hjr : j * 4 + r < cur.size := by omega
  by_cases e : j = i
  · subst e
    rw [if_pos rfl]
    simp only [Array.getElem?_setIfInBounds, Array.size_setIfInBounds]
    match r, hr with
    | 0, _ => (repeat rw [if_neg (by omega)]); rw [if_pos (by omega), if_pos (by omega)]; rfl
    | 1, _ => (repeat rw [if_neg (by omega)]); rw [if_pos (by omega), if_pos (by omega)]; rfl
    | 2, _ => (repeat rw [if_neg (by omega)]); rw [if_pos (by omega), if_pos (by omega)]; rfl
    | 3, _ => (repeat rw [if_neg (by omega)]); rw [if_pos (by omega), if_pos (by omega)]; rfl
  · rw [if_neg e]
    have hF := row j hj r hr
    rw [bk_cell hb] at hF
    rw [Array.getElem?_setIfInBounds_ne (by omega), Array.getElem?_setIfInBounds_ne (by omega), Array.getElem?_setIfInBounds_ne (by omega), Array.getElem?_setIfInBounds_ne (by omega)]
    exact hF
theorem sl_len {C : Cfg} {i : Nat} {L : List (List Int)} {xs : List Int} (hok : CkOk C) (hi : i < C.nC) (h : L.length ≤ cN C i) : (sL C i L xs).length ≤ cN C i := by
  unfold sL
  split
  · rename_i h0
    unfold sE at h0
    split at h0
    · cases h0
    · split at h0
      · cases h0
      · simp; omega
  · exact h
theorem ownF_blk {w : World} {B : Nat} {e k g c : Nat} {n : Nat} {xs : List Value} (h : w.ownsRow B e k (.slice (some ⟨g, 0, none⟩) n c) n xs) : ∃ cur, w.heap[g]? = some (.cells cur e (0, 0)) ∧ n * k ≤ cur.size := by
  obtain ⟨_, h⟩ := h
  rcases h with ⟨h, _⟩ | ⟨g', cap, cur, e1, hb, hg, hn, hm, hs, ht⟩
  · cases h
  · simp only [Value.slice.injEq, Option.some.injEq, Addr.mk.injEq, and_true, true_and] at e1
    obtain ⟨rfl, rfl⟩ := e1
    exact ⟨cur, hg, by rw [hs]; exact Nat.mul_le_mul_right k hn⟩
theorem bd_wf {xs : List Int} (h : ∀ i, i < xs.length → 0 ≤ xs.getD i 0 ∧ xs.getD i 0 < 4294967296) : ∀ x ∈ xs, (Lit.int .u32 x).wf = true := by
  intro x hx
  obtain ⟨i, hi, rfl⟩ := mem_getD hx
  exact wf_u32 (h i hi).1 (h i hi).2
/-- the reference's ring sends -/
theorem r_send (C : Cfg) (i : Nat) (P : Nat → Prop) (out cp : Nat) (q qm : Option Addr) (V : List Value) (L : List (List Int)) (xs : List Int) (cap : Nat) (W : World) (hok : CkOk C) (hi : i < C.nC) (hm : Msgs W P q cp V L) (hl : L.length ≤ cN C i)
    (hs : Sl W .u32 qm xs.length (fun i => xs.getD i 0)) (hw : ∀ i, i < xs.length → 0 ≤ xs.getD i 0 ∧ xs.getD i 0 < 4294967296) :
    Calls Try.prog 64 #[.pointer (some ⟨W.heap.size, 0, none⟩), .slice qm xs.length cap] (W.alloc (.cells #[.int .i64 (C.cc i), .int .i64 (C.cw i), .slice q L.length cp, .int .i64 out] 99)) fun e W' =>
      e = .returned (.int .i64 (sE C i L xs.length)) ∧ ∃ q' cp' V', IsRef W' W.heap.size (cN C i) (dN C i) out q' (sL C i L xs).length cp' ∧ Msgs W' (fun b => P b ∨ W.heap.size ≤ b) q' cp' V' (sL C i L xs) ∧ Below W.heap.size W W' := by
  obtain ⟨l1, l2, l3, l4, l5, l6⟩ := cN_eq hok hi
  have hal : Below W.heap.size W (W.alloc (.cells #[.int .i64 (C.cc i), .int .i64 (C.cw i), .slice q L.length cp, .int .i64 out] 99)) := (Below.refl _ _).alloc (Nat.le_refl _) _
  have hr : IsRef (W.alloc (.cells #[.int .i64 (C.cc i), .int .i64 (C.cw i), .slice q L.length cp, .int .i64 out] 99)) W.heap.size (cN C i) (dN C i) out q L.length cp := by
    unfold IsRef
    rw [l1, l2]
    exact bk_new W _
  by_cases ha : xs.length < 1 ∨ dN C i < xs.length
  · have e1 : sE C i L xs.length = 2 := if_pos ha
    have e2 : sL C i L xs = L := if_neg (by rw [e1]; decide)
    rw [e1, e2]
    refine (rsend_arg _ _ _ _ _ _ _ qm xs.length cap _ hr ha).mono ?_
    rintro e w' ⟨rfl, rfl⟩
    exact ⟨rfl, q, cp, V, hr, hm.keep (fun b o v h hc => ⟨.inl h, keepc hal hc⟩), hal⟩
  by_cases hf : L.length = cN C i
  · have e1 : sE C i L xs.length = 12 := by unfold sE; rw [if_neg ha, if_pos hf]
    have e2 : sL C i L xs = L := if_neg (by rw [e1]; decide)
    rw [e1, e2]
    refine (rsend_full _ _ _ _ _ _ _ qm xs.length cap _ hr (by omega) (by omega) (by omega)).mono ?_
    rintro e w' ⟨rfl, hb⟩
    exact ⟨rfl, q, cp, V, bk_below hr hb, hm.keep (fun b o v h hc => ⟨.inl h, keepc (bstep hal hb) hc⟩), bstep hal hb⟩
  have e1 : sE C i L xs.length = 0 := by unfold sE; rw [if_neg ha, if_neg hf]
  have e2 : sL C i L xs = L ++ [xs] := if_pos e1
  rw [e1, e2]
  have hlen := hm.len
  rw [← hlen] at hr ⊢
  have hrow : SlV (W.alloc (.cells #[.int .i64 (C.cc i), .int .i64 (C.cw i), .slice q V.length cp, .int .i64 out] 99)) q V := by
    rw [hlen]
    exact hm.slv.below hal
  refine (rsend_ok W.heap.size (cN C i) (dN C i) out q V cp qm xs cap _ hr hrow hm.qn hm.one (by rw [hlen]; exact hs.below hal) (bd_wf hw) (by omega) (by omega) (by omega) (by omega) (by omega)).mono ?_
  rintro e w' ⟨rfl, p', q', cp', c', h1, h2, h3, h4, h5, h6, h7⟩
  rw [World.size_alloc] at h4 h5
  have hB : Below W.heap.size W w' := h7.below (by rw [hlen]; exact hal) (Nat.le_refl _) (by rw [World.size_alloc]; omega)
  have ho := hm.keep (w' := w') (P' := fun b => P b ∨ W.heap.size ≤ b) (fun b o v h hc => ⟨.inl h, keepc hB hc⟩)
  refine ⟨rfl, p', cp', V ++ [.slice q' xs.length c'], by rw [List.length_append, List.length_singleton, ← hlen]; exact h1, ⟨by simp [hlen], ?_, fun e => ?_, by simp; exact h6, fun k ys hk => ?_⟩, hB⟩
  · rcases h2 with h0 | ⟨b, o, e', hc⟩
    · exact .inl h0
    · exact .inr ⟨b, o, e', .inr (Nat.le_of_succ_le (h4 b o e')), hc⟩
  · rcases h2 with h0 | ⟨b, o, e', _⟩
    · simp at h0
    · rw [e] at e'; cases e'
  · by_cases hkl : k < L.length
    · rw [List.getElem?_append_left hkl] at hk
      obtain ⟨a, c, v1, v2⟩ := ho.at_ k ys hk
      exact ⟨a, c, by rw [List.getElem?_append_left (by omega)]; exact v1, v2⟩
    · have hk2 : k = L.length := by
        have := (List.getElem?_eq_some_iff.1 hk).1
        simp at this
        omega
      subst hk2
      rw [List.getElem?_append_right (Nat.le_refl _), Nat.sub_self] at hk
      simp at hk
      subst hk
      refine ⟨q', c', ?_, ?_⟩
      · rw [List.getElem?_append_right (by omega), hlen, Nat.sub_self]
        rfl
      · rcases h3 with h0 | ⟨b, o, e, hc⟩
        · exact .inl h0
        · exact .inr ⟨b, o, e, .inr (Nat.le_of_succ_le (h5 b o e)), hc⟩
end Go.Proofs.Ytofkgceenppdbaa
