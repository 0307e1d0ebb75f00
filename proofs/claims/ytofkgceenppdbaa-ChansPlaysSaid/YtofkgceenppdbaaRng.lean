/- A range over a function whose iterator keeps cells of its own: a law for its caller. -/
import Derived.Test.YtofkgceenppdbaaOwn
import Derived.RangeFuncNested
import Derived.RangeFuncBound
import Derived.RangeFuncCalls
import Derived.RangeFuncLeaves
import Derived.Shelf.Abstract
import Derived.OwnWalkIn
import Derived.TacticsInMore
import Derived.LoopNIn
import Derived.LoopIn
import Derived.Lib.Hide
import Derived.Outline
namespace Go.Proofs.Ytofkgceenppdbaa
open Go.RowKit
set_option linter.unusedVariables false
set_option linter.unusedSimpArgs false
theorem room_none {F : Fence} (hd : F.depth = none) (k : Nat) : F.room k := fun d h => by rw [hd] at h; cases h
theorem round_any {F : Fence} (hd : F.depth = none) {m m' : Nat} {P : Program} {l : Nat} {f : FuncId} {tmps : Array Value} {assign body : Code} {w : World} {R : Ending → World → Prop}
    (h : RoundIn F m P l f tmps assign body w R) : RoundIn F m' P l f tmps assign body w R := ⟨h.1, fun c cs _ => h.2 c cs (room_none hd _)⟩
theorem yield_any {F : Fence} (hd : F.depth = none) {m : Nat} (m' : Nat) {P : Program} {l : Nat} {args : Array Value} {W : World} {R : Ending → World → Prop} (h : YieldAt F m P l args W R) : YieldAt F m' P l args W R := by
  obtain ⟨fn, tmps, assign, body, hy, hR⟩ := h
  exact ⟨fn, tmps, assign, body, hy, round_any hd hR⟩
theorem kept_put (W : World) (l : Nat) (o : Obj) : Kept l W (W.putObj l o) := ⟨rfl, rfl, rfl, by simp, fun k _ hk => World.putObj_heap_other hk⟩
theorem below_put {B : Nat} {A W : World} (h : Below B A W) {l : Nat} (hl : B ≤ l) (o : Obj) : Below B A (W.putObj l o) :=
  ⟨h.os, h.tape, h.output, by simpa using h.size, fun k hk => (World.putObj_heap_other (by omega)).trans (h.block k hk)⟩
/-- an iterator that tells N things, one behind the other -/
def Iter (F : Fence) (P : Program) (gf : Nat) (lb : Array Value) (N : Nat) (encs : Nat → Array Value) (w : World) : Prop :=
  ∀ (n l : Nat) (J : Nat → World → Prop) (Jx : World → Prop) (W : World), Below w.heap.size w W → w.heap.size ≤ l → l < W.heap.size → (∀ k A B, Below W.heap.size A B → J k A → J k B) → (∀ A B, Below W.heap.size A B → Jx A → Jx B) →
    (∀ k V, k < N → J k V → YieldAt F 0 P l (encs k) V fun e V' => (e = .returned (.bool true) ∧ J (k + 1) V' ∧ Kept l V V') ∨ (e = .returned (.bool false) ∧ Jx V')) →
    J 0 W → CallsIn F n P gf (#[.func (.yield l) #[] #[]] ++ lb) W fun e W' => (∃ v, e = .returned v) ∧ (J N W' ∨ Jx W')
/-- how a round may be left -/
def rngPost (l D : Nat) (I : World → Prop) (Ix : Code → World → Prop) (W : World) : Exit → Act → World → Prop
  | .normal, _, W' => Below W.heap.size W W' ∧ I W'
  | .ret, _, W' => W'.heap[l]? = W.heap[l]? ∧ W'.heap[D]? = W.heap[D]? ∧ Ix .ret W'
  | .exit id, _, W' => W'.heap[l]? = W.heap[l]? ∧ W'.heap[D]? = W.heap[D]? ∧ Ix (.exit id) W'
  | .goto t, _, W' => W'.heap[l]? = W.heap[l]? ∧ W'.heap[D]? = W.heap[D]? ∧ Ix (.goto t) W'
  | .panic _, _, _ => False
  | .outgrown, _, _ => False
theorem wp_range {F : Fence} {n : Nat} {P : Program} {g : Operand} {ps : Array Tmp} {assign body : Code} {Q : Exit → Act → World → Prop} {a : Act} {w : World}
    (hro : F.round = none) (hd : F.depth = none) {gf : Nat} {lb : Array Value} (hg : a.eval g = .func (.func gf) #[] lb) (hFg : F.fn gf) (eg : ∀ args w, (callFunc gf args).run P w = .ok (.enter gf args) w)
    {N : Nat} {encs : Nat → Array Value} (hseq : Iter F P gf lb N encs w) (hps : ∀ k, (encs k).size = ps.size)
    (I : Nat → World → Prop) (Ix : Code → World → Prop) (hI : ∀ k A B, Below w.heap.size A B → I k A → I k B) (hIx : ∀ c A B, Below w.heap.size A B → Ix c A → Ix c B) (h0 : I 0 w)
    (hround : ∀ (k m : Nat) (W : World), k < N → I k W → w.heap.size + 2 ≤ W.heap.size →
      assign.wpIn (F.inRound (w.heap.size + 1)) m P (Exit.then (fun a' Wa => Below W.heap.size W Wa ∧ ∀ W2, Kept (w.heap.size + 1) Wa W2 → I k W2 →
        body.wpIn (F.inRound (w.heap.size + 1)) m P (rngPost (w.heap.size + 1) w.heap.size (I (k + 1)) Ix W2) a' W2) (fun _ _ _ => False))
        { tmps := (ps.zip (encs k)).foldl (fun t (p, v) => t.setIfInBounds p v) a.tmps, defers := [] } W)
    (hdone : ∀ W, I N W → W.heap[w.heap.size]? = some (.deferred (some [])) → Q .normal { a with defers := { target := .collected w.heap.size, args := #[] } :: a.defers } W)
    (hstop : ∀ c W, Ix c W → W.heap[w.heap.size]? = some (.deferred (some [])) → c.wpIn F n P Q { a with defers := { target := .collected w.heap.size, args := #[] } :: a.defers } W) :
    (Code.rangeFunc g ps assign body).wpIn F n P Q a w := by
  refine wpIn_rangeFunc ?_
  intro fn hfn
  rw [hro]
  obtain ⟨rec, hrec⟩ : ∃ rec : LoopState → Option Code → Loop, rec = fun st pe => { state := st, pending := pe, fn, tmps := a.tmps, params := ps, assign, body, defers := w.heap.size } := ⟨_, rfl⟩
  obtain ⟨W1, hW1⟩ : ∃ W1, (w.alloc (.deferred (some []))).alloc (.loop (rec .ready none)) = W1 := ⟨_, rfl⟩
  have hs1 : W1.heap.size = w.heap.size + 2 := by rw [← hW1]; simp
  have hL1 : W1.heap[w.heap.size + 1]? = some (.loop (rec .ready none)) := by
    rw [← hW1]; have := World.alloc_heap_new (w.alloc (.deferred (some []))) (.loop (rec .ready none)); rwa [World.size_alloc] at this
  have hK1 : W1.heap[w.heap.size]? = some (.deferred (some [])) := by
    rw [← hW1]; exact (Below.heap_alloc _ _ _ (by simp)).trans (World.alloc_heap_new w _)
  have hb1 : Below w.heap.size w W1 := by
    rw [← hW1]; exact ((Below.refl _ w).alloc (Nat.le_refl _) _).alloc (by simp) _
  refine ⟨w.heap.size + 1, [{ target := .collected w.heap.size, args := #[] }], W1, { target := .fn (.func gf) lb, args := #[.func (.yield (w.heap.size + 1)) #[] #[]] }, W1, gf,
    #[.func (.yield (w.heap.size + 1)) #[] #[]] ++ lb, W1, ?_, ?_, ?_, ?_, (fun h => by rw [hd] at h; cases h), ?_⟩
  · rw [← hW1, hrec]; exact run_enterLoop_outer _ _ _ _ _
  · simp only [resolve, hg]
    simp [go_sem]
  · intro f' hf'; simp [Target.leads] at hf'; subst hf'; exact hFg
  · simp [invoke, go_sem, eg]
  refine (hseq (n - 1) (w.heap.size + 1)
    (fun k W => I k W ∧ W.heap[w.heap.size + 1]? = some (.loop (rec .ready none)) ∧ W.heap[w.heap.size]? = some (.deferred (some [])) ∧ w.heap.size + 2 ≤ W.heap.size)
    (fun W => ∃ c, Ix c W ∧ W.heap[w.heap.size + 1]? = some (.loop (rec .done (some c))) ∧ W.heap[w.heap.size]? = some (.deferred (some [])))
    W1 hb1 (by omega) (by omega) ?_ ?_ ?_ ⟨hI 0 _ _ hb1 h0, hL1, hK1, by omega⟩).mono ?_
  · rintro k A B hb ⟨h1, h2, h3, h4⟩
    exact ⟨hI k A B (hb.mono (by omega)) h1, (hb.block _ (by omega)).trans h2, (hb.block _ (by omega)).trans h3, Nat.le_trans h4 hb.size⟩
  · rintro A B hb ⟨c, h1, h2, h3⟩
    exact ⟨c, hIx c A B (hb.mono (by omega)) h1, (hb.block _ (by omega)).trans h2, (hb.block _ (by omega)).trans h3⟩
  · rintro k V hkN ⟨hi, hl, hk, hsz⟩
    have hy := run_yield (P := P) (args := encs k) hl (by rw [hrec]; exact hps k)
    rw [hrec] at hy
    refine ⟨fn, _, assign, body, hy, roundIn_of_wpIn hfn (wpIn_mono (hround k 0 V hkN hi hsz) ?_)⟩
    clear hy
    rintro e a' Wa hp
    cases e with
    | normal =>
      obtain ⟨hba, hbody⟩ := hp
      have hl2 := (hba.block _ (by omega)).trans hl
      have hk2 := (hba.block _ (by omega)).trans hk
      have hlt : w.heap.size + 1 < Wa.heap.size := bk_lt hl2
      refine ⟨_, run_beginRound hl2 (by rw [hrec]), ?_⟩
      have hl3 : (Wa.putObj (w.heap.size + 1) (.loop { rec .ready none with state := .busy })).heap[w.heap.size + 1]? = some (.loop { rec .ready none with state := .busy }) := World.putObj_heap_same hlt
      have hk3 : (Wa.putObj (w.heap.size + 1) (.loop { rec .ready none with state := .busy })).heap[w.heap.size]? = some (.deferred (some [])) := (World.putObj_heap_other (by omega)).trans hk2
      have hkp := kept_put Wa (w.heap.size + 1) (.loop { rec .ready none with state := .busy })
      have hib := hI k Wa _ (below_put (Below.refl w.heap.size Wa) (l := w.heap.size + 1) (Nat.le_succ _) (.loop { rec .ready none with state := .busy })) (hI k V Wa (hba.mono (Nat.le_trans (Nat.le_add_right _ 2) hsz)) hi)
      refine wpIn_mono (hbody _ hkp hib) ?_
      have hs2 : (Wa.putObj (w.heap.size + 1) (.loop { rec .ready none with state := .busy })).heap.size = Wa.heap.size := by simp
      have hba2 := hba.size
      generalize hW2 : Wa.putObj (w.heap.size + 1) (.loop { rec .ready none with state := .busy }) = W2 at *
      clear hW2
      have fin : ∀ (jump : Option Code) (W3 : World), W3.heap[w.heap.size + 1]? = W2.heap[w.heap.size + 1]? → W3.heap[w.heap.size]? = W2.heap[w.heap.size]? →
          (Instr.endRound (w.heap.size + 1) jump).run P W3 = .ok (.bool jump.isNone) (W3.putObj (w.heap.size + 1) (.loop (rec (if jump.isNone then .ready else .done) jump))) ∧
          (W3.putObj (w.heap.size + 1) (.loop (rec (if jump.isNone then .ready else .done) jump))).heap[w.heap.size + 1]? = some (.loop (rec (if jump.isNone then .ready else .done) jump)) ∧
          (W3.putObj (w.heap.size + 1) (.loop (rec (if jump.isNone then .ready else .done) jump))).heap[w.heap.size]? = some (.deferred (some [])) := fun jump W3 e1 e2 => by
        have hl4 := e1.trans hl3
        have := run_endRound (P := P) jump hl4
        rw [hrec] at this ⊢
        exact ⟨this, World.putObj_heap_same (bk_lt hl4), (World.putObj_heap_other (by omega)).trans (e2.trans hk3)⟩
      rintro e a3 W3 hp
      cases e with
      | normal =>
        obtain ⟨hb3, hi3⟩ := hp
        obtain ⟨hr, hl4, hk4⟩ := fin none W3 (hb3.block _ (by omega)) (hb3.block _ (by omega))
        have hz3 := hb3.size
        refine ⟨_, _, hr, .inl ⟨rfl, ⟨hI _ _ _ (below_put (Below.refl w.heap.size W3) (by omega) _) hi3, hl4, hk4, by simp; omega⟩, ?_⟩⟩
        exact ((Kept.of_below hba).trans hkp).trans ((Kept.of_below hb3).trans (kept_put W3 _ _))
      | ret =>
        obtain ⟨e1, e2, hi3⟩ := hp
        obtain ⟨hr, hl4, hk4⟩ := fin (some .ret) W3 e1 e2
        exact ⟨_, _, hr, .inr ⟨rfl, .ret, hIx _ _ _ (below_put (Below.refl w.heap.size W3) (by omega) _) hi3, hl4, hk4⟩⟩
      | exit id =>
        obtain ⟨e1, e2, hi3⟩ := hp
        obtain ⟨hr, hl4, hk4⟩ := fin (some (.exit id)) W3 e1 e2
        exact ⟨_, _, hr, .inr ⟨rfl, .exit id, hIx _ _ _ (below_put (Below.refl w.heap.size W3) (by omega) _) hi3, hl4, hk4⟩⟩
      | goto t =>
        obtain ⟨e1, e2, hi3⟩ := hp
        obtain ⟨hr, hl4, hk4⟩ := fin (some (.goto t)) W3 e1 e2
        exact ⟨_, _, hr, .inr ⟨rfl, .goto t, hIx _ _ _ (below_put (Below.refl w.heap.size W3) (by omega) _) hi3, hl4, hk4⟩⟩
      | panic ch => exact hp.elim
      | outgrown => exact hp.elim
    | exit id => exact hp.elim
    | goto t => exact hp.elim
    | ret => exact hp.elim
    | panic chain => exact hp.elim
    | outgrown => exact hp.elim
  · rintro e W2 ⟨⟨v, rfl⟩, (⟨hi, hl, hk, _⟩ | ⟨c, hi, hl, hk⟩)⟩
    · exact ⟨none, _, by have := run_endLoop (P := P) hl (by rw [hrec]; simp); rw [hrec] at this; exact this, hdone _ (hI _ _ _ (below_put (Below.refl w.heap.size W2) (by omega) _) hi) ((World.putObj_heap_other (by omega)).trans hk)⟩
    · exact ⟨some c, _, by have := run_endLoop (P := P) hl (by rw [hrec]; simp); rw [hrec] at this; exact this, hstop c _ (hIx _ _ _ (below_put (Below.refl w.heap.size W2) (by omega) _) hi) ((World.putObj_heap_other (by omega)).trans hk)⟩
end Go.Proofs.Ytofkgceenppdbaa
