/- What is put is read again: the plain law. -/
import Derived.Test.YtnhffghppjlbaaaPutAny
namespace Go.Proofs.Ytnhffghppjlbaaa
open Go.RowKit
set_option linter.unusedVariables false
set_option linter.unusedSimpArgs false
theorem upd_words {r : Nat → Int} {t : Nat} {n : Int} (h : Words r) (hn : 0 ≤ n ∧ n < 4294967296) : Words (upd r t n) := by
  intro i
  unfold upd
  split
  · exact hn
  · exact h i
theorem rz_words : Words rz := fun _ => by simp [rz]
theorem st_words {r : Nat → Int} {t : Nat} {n : Int} (h : Words r) (hn : Fit t n) : Words (st r t n) := by
  unfold st
  split
  · exact h
  · exact upd_words h hn.1
theorem rk_words {ta tb tc : Nat} {A B C : Int} (hA : Fit ta A) (hB : Fit tb B) (hC : Fit tc C) : Words (rk ta tb tc A B C 3) :=
  st_words (st_words (st_words rz_words hA) hB) hC
theorem put_cases {n A B C : Int} {W : Bool} (h : putE n A B C W = 0) : ∃ k : Nat, n = k ∧ k < 13 ∧ OkPut (tA k) (tB k) (tC k) (tW k) A B C W := by
  unfold putE at h
  split at h
  · omega
  · rename_i hn
    refine ⟨n.toNat, by omega, by omega, ?_⟩
    unfold pE at h
    split at h
    · assumption
    · omega
theorem putE_vals (n A B C : Int) (W : Bool) : putE n A B C W = 0 ∨ putE n A B C W = 2 ∨ putE n A B C W = 10 := by
  unfold putE pE
  split
  · simp
  · split <;> simp
theorem putR_bad {n A B C : Int} {W : Bool} (h : ¬ putE n A B C W = 0) : putR n A B C W = rz := by
  unfold putE at h
  unfold putR
  split
  · rfl
  · rename_i hn
    rw [if_neg hn] at h
    unfold pE at h
    unfold pR
    split at h
    · omega
    · rename_i h2
      exact if_neg h2
theorem putR_ok {k : Nat} {A B C : Int} {W : Bool} (hk : k < 13) (h : OkPut (tA k) (tB k) (tC k) (tW k) A B C W) : putR k A B C W = upd (if W = true then upd (rk (tA k) (tB k) (tC k) A B C 3) (tW k) 1 else rk (tA k) (tB k) (tC k) A B C 3) 0 k := by
  unfold putR
  rw [if_neg (by omega)]
  exact if_pos h
theorem putE_ok {k : Nat} {A B C : Int} {W : Bool} (hk : k < 13) (h : OkPut (tA k) (tB k) (tC k) (tW k) A B C W) : putE k A B C W = 0 := by
  unfold putE
  rw [if_neg (by omega)]
  exact pE_ok h
theorem putR_words (n A B C : Int) (W : Bool) : Words (putR n A B C W) := by
  by_cases h : putE n A B C W = 0
  · obtain ⟨k, rfl, hk, ho⟩ := put_cases h
    rw [putR_ok hk ho]
    refine upd_words ?_ (by omega)
    split
    · exact upd_words (rk_words ho.1.1 ho.1.2.1 ho.1.2.2) (by omega)
    · exact rk_words ho.1.1 ho.1.2.1 ho.1.2.2
  · rw [putR_bad h]
    exact rz_words
/-- what is put is read again -/
theorem put_read {k : Nat} {A B C : Int} {W : Bool} (hk : k < 13) (h : OkPut (tA k) (tB k) (tC k) (tW k) A B C W) :
    sE (putR k A B C W) = 0 ∧ sNo (putR k A B C W) = k ∧ sA (putR k A B C W) = A ∧ sB (putR k A B C W) = B ∧ sC (putR k A B C W) = C ∧ sW (putR k A B C W) = W := by
  rw [putR_ok hk h]
  revert h
  refine cases13 (P := fun k => OkPut (tA k) (tB k) (tC k) (tW k) A B C W → sE (upd (if W = true then upd (rk (tA k) (tB k) (tC k) A B C 3) (tW k) 1 else rk (tA k) (tB k) (tC k) A B C 3) 0 k) = 0 ∧ sNo (upd (if W = true then upd (rk (tA k) (tB k) (tC k) A B C 3) (tW k) 1 else rk (tA k) (tB k) (tC k) A B C 3) 0 k) = k ∧ sA (upd (if W = true then upd (rk (tA k) (tB k) (tC k) A B C 3) (tW k) 1 else rk (tA k) (tB k) (tC k) A B C 3) 0 k) = A ∧ sB (upd (if W = true then upd (rk (tA k) (tB k) (tC k) A B C 3) (tW k) 1 else rk (tA k) (tB k) (tC k) A B C 3) 0 k) = B ∧ sC (upd (if W = true then upd (rk (tA k) (tB k) (tC k) A B C 3) (tW k) 1 else rk (tA k) (tB k) (tC k) A B C 3) 0 k) = C ∧ sW (upd (if W = true then upd (rk (tA k) (tB k) (tC k) A B C 3) (tW k) 1 else rk (tA k) (tB k) (tC k) A B C 3) 0 k) = W) ?_ ?_ ?_ ?_ ?_ ?_ ?_ ?_ ?_ ?_ ?_ ?_ ?_ k hk
  all_goals
    intro h
    obtain ⟨⟨⟨-, hA⟩, ⟨-, hB⟩, ⟨-, hC⟩⟩, hW⟩ := h
    simp only [tA, tB, tC, tW, List.getD_cons_zero, List.getD_cons_succ] at hA hB hC hW
    cases W
    all_goals (simp at hA hB hC hW; try simp [hA, hB, hC]) 
    all_goals (simp [sE, sNo, sA, sB, sC, sW, fl, upd, st, rk, rz, tA, tB, tC, tW]; try omega)
/-- what is read may be put -/
theorem read_ok_put {r : Nat → Int} (hr : Words r) (h : sE r = 0) : ∃ k : Nat, r 0 = k ∧ k < 13 ∧ OkPut (tA k) (tB k) (tC k) (tW k) (sA r) (sB r) (sC r) (sW r) := by
  have h0 := hr 0
  have hn : ¬ 13 ≤ r 0 := by
    intro h'
    rw [sE, if_pos h'] at h
    omega
  have hw : ¬ 1 < fl r (tW (r 0).toNat) := by
    intro h'
    rw [sE, if_neg hn, if_pos h'] at h
    omega
  refine ⟨(r 0).toNat, by omega, by omega, ⟨⟨⟨?_, ?_⟩, ⟨?_, ?_⟩, ⟨?_, ?_⟩⟩, ?_⟩⟩
  · rw [sA, if_pos h]; exact fl_word hr _
  · intro ht; rw [sA, if_pos h, ht]; rfl
  · rw [sB, if_pos h]; exact fl_word hr _
  · intro ht; rw [sB, if_pos h, ht]; rfl
  · rw [sC, if_pos h]; exact fl_word hr _
  · intro ht; rw [sC, if_pos h, ht]; rfl
  · intro hx ht
    rw [sW, if_pos h, ht] at hx
    simp [fl] at hx
theorem read_bad0 {r : Nat → Int} (h : ¬ sE r = 0) : sNo r = 0 ∧ sA r = 0 ∧ sB r = 0 ∧ sC r = 0 ∧ sW r = false := by
  simp only [sNo, sA, sB, sC, sW, if_neg h, and_self]
theorem sE_ten (r : Nat → Int) : (sE r = 10) ↔ 12 < r 0 := by
  unfold sE
  split
  · simp; omega
  · split <;> simp <;> omega
/-- registers that the table does not name do nothing -/
theorem read_upd {r : Nat → Int} (hr : Words r) {t : Nat} {n : Int} (ht : 4 ≤ t) : sE (upd r t n) = sE r ∧ sNo (upd r t n) = sNo r ∧ sA (upd r t n) = sA r ∧ sB (upd r t n) = sB r ∧ sC (upd r t n) = sC r ∧ sW (upd r t n) = sW r := by
  have h0 : upd r t n 0 = r 0 := if_neg (by omega)
  have hf : ∀ j, j < 4 → fl (upd r t n) j = fl r j := by
    intro j hj
    unfold fl
    split
    · rfl
    · exact if_neg (by omega)
  have hE : sE (upd r t n) = sE r := by
    unfold sE
    rw [h0]
    by_cases hn : 13 ≤ r 0
    · rw [if_pos hn, if_pos hn]
    · rw [if_neg hn, if_neg hn, hf]
      have := hr 0
      exact (cases13 (P := fun k => tW k < 4) (by decide) (by decide) (by decide) (by decide) (by decide) (by decide) (by decide) (by decide) (by decide) (by decide) (by decide) (by decide) (by decide) (r 0).toNat (by omega))
  have ht4 : ∀ k, k < 13 → tA k < 4 ∧ tB k < 4 ∧ tC k < 4 ∧ tW k < 4 := cases13 (P := fun k => tA k < 4 ∧ tB k < 4 ∧ tC k < 4 ∧ tW k < 4) (by decide) (by decide) (by decide) (by decide) (by decide) (by decide) (by decide) (by decide) (by decide) (by decide) (by decide) (by decide) (by decide)
  refine ⟨hE, ?_⟩
  by_cases hz : sE r = 0
  · have hn : ¬ 13 ≤ r 0 := by
      intro h'
      rw [sE, if_pos h'] at hz
      omega
    have hk := ht4 (r 0).toNat (by have := hr 0; omega)
    have hz' : sE (upd r t n) = 0 := hE.trans hz
    simp only [sNo, sA, sB, sC, sW, if_pos hz, if_pos hz', h0, hf _ hk.1, hf _ hk.2.1, hf _ hk.2.2.1, hf _ hk.2.2.2, and_self]
  · have hz' : ¬ sE (upd r t n) = 0 := by rw [hE]; exact hz
    simp only [sNo, sA, sB, sC, sW, if_neg hz, if_neg hz', and_self]
end Go.Proofs.Ytnhffghppjlbaaa
