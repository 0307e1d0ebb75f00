/- The channels of a configuration in memory: their state, and one of them taken out and put back. -/
import Derived.Test.YtofkgceenppdbaaChn
import Derived.Test.YtofkgceenppdbaaPlanF
namespace Go.Proofs.Ytofkgceenppdbaa
open Go.RowKit
set_option linter.unusedVariables false
set_option linter.unusedSimpArgs false
/-- a channel's first frame, its cap, its width, how many words it takes -/
noncomputable def frN (C : Cfg) (i : Nat) : Nat := (chA C i).toNat
def cN (C : Cfg) (i : Nat) : Nat := (C.cc i).toNat
def dN (C : Cfg) (i : Nat) : Nat := (C.cw i).toNat
def winN (C : Cfg) (i : Nat) : Nat := cN C i * (dN C i + 1)
theorem chA_eq {C : Cfg} {i : Nat} (h : CkOk C) (hi : i < C.nC) : chA C i = sumF (fP C) C.nP + sumF (fC C) i := by
  unfold chA
  rw [if_pos ⟨h, by omega, by omega⟩, Int.toNat_natCast]
theorem sumF_le {f : Nat → Int} {n : Nat} (h : ∀ i, i < n → 0 ≤ f i) {i j : Nat} (hij : i ≤ j) (hj : j ≤ n) : sumF f i ≤ sumF f j := by
  induction j with
  | zero => rw [Nat.le_zero.1 hij]; exact Int.le_refl _
  | succ j ih =>
    rcases Nat.lt_or_ge i (j + 1) with h1 | h1
    · have := ih (by omega) (by omega)
      have h2 := h j (by omega)
      simp only [sumF]
      omega
    · rw [show i = j + 1 by omega]
      exact Int.le_refl _
theorem frN_eq {C : Cfg} {i : Nat} (h : CkOk C) (hi : i < C.nC) : (frN C i : Int) = sumF (fP C) C.nP + sumF (fC C) i := by
  unfold frN
  rw [chA_eq h hi]
  have h1 := h.1.sumP (Nat.le_refl _)
  have h2 := h.1.sumC (k := i) (by omega)
  omega
theorem frN_ch {C : Cfg} {i : Nat} (h : CkOk C) (hi : i < C.nC) : chA C i = (frN C i : Int) := by rw [chA_eq h hi, frN_eq h hi]
theorem cN_eq {C : Cfg} {i : Nat} (h : CkOk C) (hi : i < C.nC) : (cN C i : Int) = C.cc i ∧ (dN C i : Int) = C.cw i ∧ 1 ≤ cN C i ∧ cN C i ≤ 8 ∧ 1 ≤ dN C i ∧ dN C i ≤ 8 := by
  have := h.1.C hi
  unfold cN dN
  omega
theorem winN_le {C : Cfg} {i : Nat} (h : CkOk C) (hi : i < C.nC) : (winN C i : Int) ≤ fC C i * 32 ∧ winN C i ≤ 72 := by
  obtain ⟨h1, h2, h3, h4, h5, h6⟩ := cN_eq h hi
  have h7 : winN C i ≤ 72 := cap_le h4 h6
  refine ⟨?_, h7⟩
  have h8 : (winN C i : Int) = C.cc i * (C.cw i + 1) := by unfold winN; push_cast; rw [h1, h2]
  unfold fC
  rw [h8]
  omega
theorem win_end {C : Cfg} {i : Nat} (h : CkOk C) (hi : i < C.nC) : ((frN C i * 32 + winN C i : Nat) : Int) ≤ (sumF (fP C) C.nP + sumF (fC C) (i + 1)) * 32 := by
  have h1 := frN_eq h hi
  have h2 := (winN_le h hi).1
  simp only [sumF]
  push_cast
  omega
theorem fC_nn {C : Cfg} (h : CkOk C) : ∀ i, i < C.nC → 0 ≤ fC C i := fun i hi => by have := h.1.fC_bd hi; omega
theorem win_far {C : Cfg} {i j : Nat} (h : CkOk C) (hj : j < C.nC) (hij : i < j) : frN C i * 32 + winN C i ≤ frN C j * 32 := by
  have h1 := win_end h (i := i) (by omega)
  have h2 := frN_eq h hj
  have h3 := sumF_le (fC_nn h) (i := i + 1) (j := j) (by omega) (by omega)
  omega
theorem win_in {C : Cfg} {i nF : Nat} (h : CkOk C) (hi : i < C.nC) (hF : frE C ≤ nF) : frN C i * 32 + winN C i ≤ nF * 32 := by
  have h1 := win_end h hi
  have h3 := sumF_le (fC_nn h) (i := i + 1) (j := C.nC) (by omega) (by omega)
  rw [frE_ok h.1] at hF
  omega
theorem win_lo {C : Cfg} {i : Nat} (h : CkOk C) (hi : i < C.nC) : sumF (fP C) C.nP ≤ (frN C i : Int) := by
  rw [frN_eq h hi]
  have := (h.1.sumC (k := i) (by omega)).1
  omega
/-- where everything lies -/
structure CX where
  X : Nat
  p : Option Addr
  lb : Nat
  cap : Nat
  mm : Nat
  fb : Nat
  nF : Nat
  R : Nat → Nat
/-- cell r of channel i -/
noncomputable def chF (C : Cfg) (mm : Nat) (R : Nat → Nat) (i r : Nat) : Value :=
  if r = 0 then .pointer (some ⟨R i, 0, none⟩) else if r = 1 then .pointer (some ⟨mm, 0, none⟩) else if r = 2 then .int .i64 (frN C i) else if r = 3 then .int .i64 (C.cf i) else if r = 4 then .int .i64 (C.ct i) else if r = 5 then .int .i64 (C.cc i) else .int .i64 (C.cw i)
/-- blocks apart -/
structure CX.Ok (K : CX) (n : Nat) : Prop where
  inj : ∀ i j, i < n → j < n → i ≠ j → K.R i ≠ K.R j
  R : ∀ i, i < n → K.R i ≠ K.mm ∧ K.R i ≠ K.fb ∧ K.R i ≠ K.X ∧ K.R i ≠ K.lb
  fb : K.fb ≠ K.X ∧ K.fb ≠ K.lb ∧ K.mm ≠ K.fb
/-- is a word a channel's? -/
def inWin (C : Cfg) (j : Nat) : Prop := ∃ i, i < C.nC ∧ frN C i * 32 ≤ j ∧ j < frN C i * 32 + winN C i
structure IsX (w : World) (C : Cfg) (K : CX) (aa : Nat → Nat) (LL : Nat → List (List Int)) (M : Nat → Int) : Prop where
  ck : CkOk C
  nF : frE C ≤ K.nF ∧ K.nF ≤ 1024
  ok : K.Ok C.nC
  hX : w.heap[K.X]? = some (.cells #[.bool true, .slice K.p C.nC K.cap] 71 (0, 0))
  hp : 0 < C.nC → K.p = some ⟨K.lb, 0, none⟩
  row : ∀ i, i < C.nC → ∀ r, r < 7 → w.cell? ⟨K.lb, 0 + i * 7 + r, none⟩ = some (chF C K.mm K.R i r)
  mem : MemS w K.mm K.fb K.nF M
  bd : ∀ i, i < K.nF * 32 → 0 ≤ M i ∧ M i < 4294967296
  ring : ∀ i, i < C.nC → IsRing w (K.R i) (cN C i) (dN C i) (aa i) (LL i).length
  lies : ∀ i, i < C.nC → Lies (fun j => M (frN C i * 32 + j)) (cN C i) (dN C i) (aa i) (LL i) ∧ aa i < cN C i ∧ (LL i).length ≤ cN C i
theorem IsX.below {w w' : World} {C : Cfg} {K : CX} {aa : Nat → Nat} {LL : Nat → List (List Int)} {M : Nat → Int} (h : IsX w C K aa LL M) (hb : Below w.heap.size w w') : IsX w' C K aa LL M :=
  ⟨h.ck, h.nF, h.ok, bk_below h.hX hb, h.hp, fun i hi r hr => keepc hb (h.row i hi r hr), h.mem.below hb, h.bd, fun i hi => (h.ring i hi).below hb, h.lies⟩
/-- what somebody else does -/
theorem IsX.kept2 {w w' : World} {C : Cfg} {K : CX} {aa : Nat → Nat} {LL : Nat → List (List Int)} {M : Nat → Int} {r k : Nat} (h : IsX w C K aa LL M) (j : Kept2 r k w w')
    (h1 : K.X ≠ r ∧ K.lb ≠ r ∧ K.mm ≠ r ∧ K.fb ≠ r ∧ ∀ i, i < C.nC → K.R i ≠ r) (h2 : K.X ≠ k ∧ K.lb ≠ k ∧ K.mm ≠ k ∧ K.fb ≠ k ∧ ∀ i, i < C.nC → K.R i ≠ k) : IsX w' C K aa LL M := by
  obtain ⟨cs, c1, c2⟩ := h.mem.fr
  exact ⟨h.ck, h.nF, h.ok, j.blk h.hX h1.1 h2.1, h.hp, fun i hi r hr => j.cell (h.row i hi r hr) h1.2.1 h2.2.1, ⟨j.blk h.mem.hd h1.2.2.1 h2.2.2.1, ⟨cs, j.blk c1 h1.2.2.2.1 h2.2.2.2.1, c2⟩, h.mem.ne⟩, h.bd,
    fun i hi => j.blk (h.ring i hi) (h1.2.2.2.2 i hi) (h2.2.2.2.2 i hi), h.lies⟩
/-- a channel's value -/
noncomputable def chX (C : Cfg) (K : CX) (i : Nat) : Value := chV (K.R i) K.mm (frN C i) (C.cf i) (C.ct i) (C.cc i) (C.cw i)
theorem IsX.keeps {w : World} {C : Cfg} {K : CX} {aa : Nat → Nat} {LL : Nat → List (List Int)} {M : Nat → Int} (h : IsX w C K aa LL M) {i : Nat} (hi : i < C.nC) (M' : Nat → Int) :
    Keeps (K.R i) K.fb (winN C i) (ChS M' K.mm K.fb K.nF (frN C i * 32) (winN C i)) 36 38 (chX C K i) :=
  chKeeps (h.ok.R i hi).1.symm (h.ok.R i hi).2.1.symm (win_in h.ck hi h.nF.1) h.nF.2
/-- a channel taken out -/
theorem IsX.rs {w : World} {C : Cfg} {K : CX} {aa : Nat → Nat} {LL : Nat → List (List Int)} {M : Nat → Int} (h : IsX w C K aa LL M) {i : Nat} (hi : i < C.nC) :
    RS (ChS M K.mm K.fb K.nF (frN C i * 32) (winN C i)) (K.R i) (cN C i) (dN C i) (LL i) w := by
  have hw := win_in h.ck hi h.nF.1
  refine ⟨aa i, fun j => M (frN C i * 32 + j), h.ring i hi, ⟨?_, fun j hj => h.bd _ (by omega)⟩, (h.lies i hi).2.1, (h.lies i hi).2.2, (h.lies i hi).1⟩
  rw [ovl_self]
  exact h.mem
def updL (LL : Nat → List (List Int)) (i : Nat) (L : List (List Int)) : Nat → List (List Int) := fun j => if j = i then L else LL j
def updN (aa : Nat → Nat) (i : Nat) (a : Nat) : Nat → Nat := fun j => if j = i then a else aa j
theorem Lies.congr {f g : Nat → Int} {c d a : Nat} {L : List (List Int)} (h : Lies f c d a L) (hc : 1 ≤ c) (e : ∀ j, j < c * (d + 1) → f j = g j) : Lies g c d a L := by
  intro i xs hx
  obtain ⟨h1, h2, h3, h4⟩ := h i xs hx
  have hp := plc_le (c := c) (d := d) (a := a) (k := i) hc
  refine ⟨by rw [← e _ (by omega)]; exact h1, ?_, h3, h4⟩
  rw [← h2]
  have hl : (msg f (plc c d a i) xs.length).length = xs.length := msg_length _ _ _
  rw [hl]
  exact (msg_old fun j h5 h6 => e j (by omega)).symm
/-- and put back -/
theorem IsX.put {w w' : World} {C : Cfg} {K : CX} {aa : Nat → Nat} {LL : Nat → List (List Int)} {M : Nat → Int} (h : IsX w C K aa LL M) {i : Nat} (hi : i < C.nC) {L : List (List Int)}
    (hr : RS (ChS M K.mm K.fb K.nF (frN C i * 32) (winN C i)) (K.R i) (cN C i) (dN C i) L w') (hk : Kept2 (K.R i) K.fb w w') :
    ∃ a M', IsX w' C K (updN aa i a) (updL LL i L) M' ∧ ∀ j, ¬ inWin C j → M' j = M j := by
  obtain ⟨a, f, r1, ⟨r2, r3⟩, r4, r5, r6⟩ := hr
  have hw := win_in h.ck hi h.nF.1
  refine ⟨a, ovl M (frN C i * 32) (winN C i) f, ⟨h.ck, h.nF, h.ok, hk.blk h.hX (h.ok.R i hi).2.2.1.symm h.ok.fb.1.symm, h.hp, fun k hk' r hr => hk.cell (h.row k hk' r hr) (h.ok.R i hi).2.2.2.symm h.ok.fb.2.1.symm, r2, ?_, ?_, ?_⟩, ?_⟩
  · intro j hj
    unfold ovl
    split
    · exact r3 _ (by omega)
    · exact h.bd j hj
  · intro j hj
    unfold updN updL
    by_cases e : j = i
    · subst e
      rw [if_pos rfl, if_pos rfl]
      exact r1
    · rw [if_neg e, if_neg e]
      exact hk.blk (h.ring j hj) (h.ok.inj j i hj hi e) (h.ok.R j hj).2.1
  · intro j hj
    unfold updN updL
    by_cases e : j = i
    · subst e
      rw [if_pos rfl, if_pos rfl]
      refine ⟨r6.congr (cN_eq h.ck hj).2.2.1 fun k hk => ?_, r4, r5⟩
      exact (ovl_at hk).symm
    · rw [if_neg e, if_neg e]
      refine ⟨(h.lies j hj).1.congr (cN_eq h.ck hj).2.2.1 fun k hk => ?_, (h.lies j hj).2⟩
      unfold ovl
      have hk' : k < winN C j := hk
      rw [if_neg]
      rcases Nat.lt_or_gt_of_ne e with h1 | h1
      · have := win_far h.ck hi h1
        omega
      · have := win_far h.ck hj h1
        omega
  · intro j hj
    unfold ovl
    exact if_neg fun e => hj ⟨i, hi, e⟩
end Go.Proofs.Ytofkgceenppdbaa
