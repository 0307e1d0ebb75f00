/- The law ChansPlays: the channels and the reference beside one another. -/
import Derived.Test.YtofkgceenppdbaaRX6
import Derived.Test.YtofkgceenppdbaaLApartP
import Derived.Test.YtofkgceenppdbaaLScr
import Derived.Deep.RegionHeld3
namespace Go.Proofs.Ytofkgceenppdbaa
open Go.RowKit
set_option linter.unusedVariables false
set_option linter.unusedSimpArgs false
/-- the channels lie before g -/
structure Bef (K : CX) (n g : Nat) : Prop where
  X : K.X < g
  mm : K.mm < g
  fb : K.fb < g
  lb : 0 < n → K.lb < g
  R : ∀ i, i < n → K.R i < g
section
variable {L g Lg : Nat} {W W' : World} {C : Cfg} {K : CX} {LL : Nat → List (List Int)} {M0 : Nat → Int} {pC : Option Addr} {cC t : Nat}
theorem KeptX.cell {n b o : Nat} {v : Value} (h : KeptX K n W W') (hc : W.cell? ⟨b, o, none⟩ = some v) (h1 : b ≠ K.fb) (h2 : ∀ i, i < n → b ≠ K.R i) : W'.cell? ⟨b, o, none⟩ = some v := by
  obtain ⟨r, hr, hk⟩ := h
  refine hk.cell hc ?_ h1
  rcases hr with rfl | ⟨i, hi, rfl⟩
  · exact h1
  · exact h2 i hi
theorem RefX.keptX (h : RefX W g Lg C pC cC t LL) (hk : KeptX K C.nC W W') (hb : Bef K C.nC Lg) : RefX W' g Lg C pC cC t LL := by
  obtain ⟨hl, p, b, cap, q, cp, out, V, hd, hy⟩ := h
  refine ⟨hl, p, b, cap, q, cp, out, V, hk.blk hd (by have := hb.fb; omega) (fun i hi => by have := hb.R i hi; omega), hy.keep fun b o v hb' hc => hk.cell hc (by have := hb.fb; have := hb'.1; omega) (fun i hi => by have := hb.R i hi; have := hb'.1; omega)⟩
theorem RefX.below (h : RefX W g Lg C pC cC t LL) (hb : Below W.heap.size W W') : RefX W' g Lg C pC cC t LL := by
  obtain ⟨hl, p, b, cap, q, cp, out, V, hd, hy⟩ := h
  exact ⟨hl, p, b, cap, q, cp, out, V, bk_below hd hb, hy.below hb⟩
theorem RefX.mono {t' : Nat} (h : RefX W g Lg C pC cC t LL) (ht : t ≤ t') : RefX W g Lg C pC cC t' LL := by
  obtain ⟨hl, p, b, cap, q, cp, out, V, hd, hy⟩ := h
  exact ⟨hl, p, b, cap, q, cp, out, V, hd, hy.mono ht⟩
theorem Bef.mono {n g' : Nat} (h : Bef K n g) (hg : g ≤ g') : Bef K n g' := ⟨by have := h.X; omega, by have := h.mm; omega, by have := h.fb; omega, fun h0 => by have := h.lb h0; omega, fun i hi => by have := h.R i hi; omega⟩
theorem Sys.keptg (h : Sys L W C K LL M0) (hk : Kept g W W') (hb : Bef K C.nC g) : Sys L W' C K LL M0 := by
  obtain ⟨aa, M, h1, h2⟩ := h.x
  obtain ⟨cs, c1, c2⟩ := h1.mem.fr
  exact ⟨⟨aa, M, ⟨h1.ck, h1.nF, h1.ok, hk.blk h1.hX (Nat.ne_of_lt hb.X), h1.hp, fun i hi r hr => hk.cell (h1.row i hi r hr) (Nat.ne_of_lt (hb.lb (by omega))), ⟨hk.blk h1.mem.hd (Nat.ne_of_lt hb.mm), ⟨cs, hk.blk c1 (Nat.ne_of_lt hb.fb), c2⟩, h1.mem.ne⟩, h1.bd, fun i hi => hk.blk (h1.ring i hi) (Nat.ne_of_lt (hb.R i hi)), h1.lies⟩, h2⟩, h.lo⟩
theorem sl_L {q : IntKind} {a : Option Addr} {n : Nat} {f : Nat → Int} (h : Sl W q a n f) (hb : Below L W W') (hl : ∀ b o, a = some ⟨b, o, none⟩ → 0 < n → b < L) : Sl W' q a n f := by
  rcases h with h | ⟨b, o, e, hc⟩
  · exact .inl h
  · by_cases hn : n = 0
    · exact .inl hn
    · exact .inr ⟨b, o, e, fun i hi => (World.cell?_of_block (w := W) (w' := W') (hb.block b (hl b o e (by omega)))).trans (hc i hi)⟩
theorem sl4_L {a : Option Addr} {n : Nat} {X Y Z U : Nat → Int} (h : Sl4 W a n X Y Z U) (hb : Below L W W') (hl : ∀ b o, a = some ⟨b, o, none⟩ → 0 < n → b < L) : Sl4 W' a n X Y Z U := by
  rcases h with h | ⟨b, o, e, hc⟩
  · exact .inl h
  · by_cases hn : n = 0
    · exact .inl hn
    · have g : ∀ j v, W.cell? ⟨b, j, none⟩ = some v → W'.cell? ⟨b, j, none⟩ = some v := fun j v h => (World.cell?_of_block (w := W) (w' := W') (hb.block b (hl b o e (by omega)))).trans h
      exact .inr ⟨b, o, e, fun i hi => ⟨g _ _ (hc i hi).1, g _ _ (hc i hi).2.1, g _ _ (hc i hi).2.2.1, g _ _ (hc i hi).2.2.2⟩⟩
/-- what neither changes -/
def KeptP (K : CX) (n g : Nat) (W W' : World) : Prop := ∀ (b : Nat) (o : Obj), W.heap[b]? = some o → b ≠ g → b ≠ K.fb → (∀ i, i < n → b ≠ K.R i) → W'.heap[b]? = some o
theorem KeptP.of_below {n : Nat} (h : Below W.heap.size W W') : KeptP K n g W W' := fun b o hb _ _ _ => bk_below hb h
theorem KeptP.of_x {n : Nat} (h : KeptX K n W W') : KeptP K n g W W' := fun b o hb _ h1 h2 => h.blk hb h1 h2
theorem KeptP.of_g {n : Nat} (h : Kept g W W') : KeptP K n g W W' := fun b o hb h0 _ _ => h.blk hb h0
theorem KeptP.trans {n : Nat} {W'' : World} (h : KeptP K n g W W') (k : KeptP K n g W' W'') : KeptP K n g W W'' := fun b o hb h0 h1 h2 => k b o (h b o hb h0 h1 h2) h0 h1 h2
end
theorem recvX_le {L : Nat} {W : World} {C : Cfg} {K : CX} {LL : Nat → List (List Int)} {M0 : Nat → Int} {part ch : Int} (h : Sys L W C K LL M0) : (recvX C LL part ch).length ≤ 8 := by
  obtain ⟨aa, M, h1, _⟩ := h.x
  unfold recvX
  rcases mayE_cases C part ch false with h4 | h4 | ⟨h0, hc1, hc2, _⟩
  · rw [if_neg (by omega)]; simp
  · rw [if_neg (by omega)]; simp
  · rw [if_pos h0]
    have hi : ch.toNat < C.nC := by omega
    have hl := (h1.lies _ hi).1
    have hd := (cN_eq h1.ck hi).2.2.2.2.2
    rcases hL : LL ch.toNat with _ | ⟨x, L'⟩
    · simp
    · have := hl 0 x (by rw [hL]; rfl)
      show x.length ≤ 8
      omega
/-- both under way -/
structure PS (L g Lg : Nat) (C : Cfg) (K : CX) (pC : Option Addr) (cC t : Nat) (LL : Nat → List (List Int)) (W : World) : Prop where
  s : Sys L W C K LL (fun _ => 0)
  r : RefX W g Lg C pC cC t LL
  c : Sl4 W pC C.nC C.cf C.ct C.cc C.cw
theorem PS.below {L g Lg : Nat} {C : Cfg} {K : CX} {pC : Option Addr} {cC t : Nat} {LL : Nat → List (List Int)} {W W' : World} (h : PS L g Lg C K pC cC t LL W) (hb : Below W.heap.size W W') : PS L g Lg C K pC cC t LL W' := ⟨h.s.below hb, h.r.below hb, h.c.below hb⟩
theorem PS.mono {L g Lg : Nat} {C : Cfg} {K : CX} {pC : Option Addr} {cC t t' : Nat} {LL : Nat → List (List Int)} {W : World} (h : PS L g Lg C K pC cC t LL W) (ht : t ≤ t') : PS L g Lg C K pC cC t' LL W := ⟨h.s, h.r.mono ht, h.c⟩
end Go.Proofs.Ytofkgceenppdbaa
