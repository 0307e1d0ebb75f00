/- Helper text of this seat (Spec): contracts of functions of the given program and of its references, each told by its theorem. -/
import Derived.Test.YtnhffghppjlbaaaRd
namespace Go.Proofs.Ytnhffghppjlbaaa
open Go.RowKit
set_option linter.unusedVariables false
set_option linter.unusedSimpArgs false
/-- in which register a call's field stands, by its number; 0: in none -/
def tA (k : Nat) : Nat := [0, 0, 0, 1, 1, 1, 1, 1, 0, 0, 1, 1, 1].getD k 0
def tB (k : Nat) : Nat := [0, 0, 0, 2, 2, 2, 0, 0, 0, 0, 0, 3, 3].getD k 0
def tC (k : Nat) : Nat := [0, 0, 0, 0, 0, 0, 0, 2, 1, 0, 2, 2, 2].getD k 0
def tW (k : Nat) : Nat := [0, 0, 0, 3, 0, 3, 0, 0, 0, 0, 0, 0, 0].getD k 0
def sE (r : Nat → Int) : Int := if 13 ≤ r 0 then 10 else if 1 < fl r (tW (r 0).toNat) then 2 else 0
def sNo (r : Nat → Int) : Int := if sE r = 0 then r 0 else 0
def sA (r : Nat → Int) : Int := if sE r = 0 then fl r (tA (r 0).toNat) else 0
def sB (r : Nat → Int) : Int := if sE r = 0 then fl r (tB (r 0).toNat) else 0
def sC (r : Nat → Int) : Int := if sE r = 0 then fl r (tC (r 0).toNat) else 0
def sW (r : Nat → Int) : Bool := if sE r = 0 then fl r (tW (r 0).toNat) == 1 else false
def Words (r : Nat → Int) : Prop := ∀ i, 0 ≤ r i ∧ r i < 4294967296
theorem fl_word {r : Nat → Int} (h : Words r) (t : Nat) : 0 ≤ fl r t ∧ fl r t < 4294967296 := by
  unfold fl
  split
  · omega
  · exact h t
theorem cases13 {P : Nat → Prop} (h0 : P 0) (h1 : P 1) (h2 : P 2) (h3 : P 3) (h4 : P 4) (h5 : P 5) (h6 : P 6) (h7 : P 7) (h8 : P 8) (h9 : P 9) (h10 : P 10) (h11 : P 11) (h12 : P 12) (k : Nat) (hk : k < 13) : P k := by
  match k, hk with
  | 0, _ => exact h0
  | 1, _ => exact h1
  | 2, _ => exact h2
  | 3, _ => exact h3
  | 4, _ => exact h4
  | 5, _ => exact h5
  | 6, _ => exact h6
  | 7, _ => exact h7
  | 8, _ => exact h8
  | 9, _ => exact h9
  | 10, _ => exact h10
  | 11, _ => exact h11
  | 12, _ => exact h12
theorem tbl_at (k : Nat) (hk : k < 13) : tblC[k * 4]? = some (.int .i64 (tA k)) ∧ tblC[k * 4 + 1]? = some (.int .i64 (tB k)) ∧ tblC[k * 4 + 2]? = some (.int .i64 (tC k)) ∧ tblC[k * 4 + 3]? = some (.int .i64 (tW k)) :=
  cases13 (P := fun k => tblC[k * 4]? = some (.int .i64 (tA k)) ∧ tblC[k * 4 + 1]? = some (.int .i64 (tB k)) ∧ tblC[k * 4 + 2]? = some (.int .i64 (tC k)) ∧ tblC[k * 4 + 3]? = some (.int .i64 (tW k)))
    ⟨rfl, rfl, rfl, rfl⟩ ⟨rfl, rfl, rfl, rfl⟩ ⟨rfl, rfl, rfl, rfl⟩ ⟨rfl, rfl, rfl, rfl⟩ ⟨rfl, rfl, rfl, rfl⟩ ⟨rfl, rfl, rfl, rfl⟩ ⟨rfl, rfl, rfl, rfl⟩ ⟨rfl, rfl, rfl, rfl⟩ ⟨rfl, rfl, rfl, rfl⟩ ⟨rfl, rfl, rfl, rfl⟩ ⟨rfl, rfl, rfl, rfl⟩ ⟨rfl, rfl, rfl, rfl⟩ ⟨rfl, rfl, rfl, rfl⟩ k hk
theorem t_lt (k : Nat) (hk : k < 13) : tA k < 8 ∧ tB k < 8 ∧ tC k < 8 ∧ tW k < 8 :=
  cases13 (P := fun k => tA k < 8 ∧ tB k < 8 ∧ tC k < 8 ∧ tW k < 8) (by decide) (by decide) (by decide) (by decide) (by decide) (by decide) (by decide) (by decide) (by decide) (by decide) (by decide) (by decide) (by decide) k hk
theorem read_any (r : Nat → Int) (hr : Words r) (w : World) :
    Calls Try.prog 8 #[.agg (regs r)] w fun e w' => e = .returned (.tuple #[.agg #[.int .i64 (sNo r), .int .i64 (sA r), .int .i64 (sB r), .int .u32 (sC r), .bool (sW r)], .int .i64 (sE r)]) ∧ Below w.heap.size w w' := by
  obtain ⟨k, hk⟩ : ∃ k : Nat, r 0 = k := ⟨(r 0).toNat, by have := hr 0; omega⟩
  have hkn : (r 0).toNat = k := by omega
  by_cases h13 : k < 13
  · obtain ⟨t0, t1, t2, t3⟩ := tbl_at k h13
    obtain ⟨l0, l1, l2, l3⟩ := t_lt k h13
    have n13 : ¬ (13 : Int) ≤ r 0 := by omega
    by_cases hw : 1 < fl r (tW k)
    · have e : sE r = 2 := by simp [sE, n13, hkn, hw]
      have e0 : ¬ sE r = 0 := by omega
      refine (read_bad r k _ _ _ _ w h13 hk t0 t1 t2 t3 l0 l1 l2 l3 hw).mono fun e1 w' ⟨h1, h2⟩ => ⟨?_, h2⟩
      rw [h1, e]
      simp only [sNo, sA, sB, sC, sW, if_neg e0]
    · have e : sE r = 0 := by simp [sE, n13, hkn, hw]
      refine (read_ok r k _ _ _ _ w h13 hk t0 t1 t2 t3 l0 l1 l2 l3 (fl_word hr _).1 (fl_word hr _).2 (fl_word hr _).1 (fl_word hr _).2 (by omega)).mono fun e1 w' ⟨h1, h2⟩ => ⟨?_, h2⟩
      rw [h1, e]
      simp only [sNo, sA, sB, sC, sW, if_pos e, hk, Int.toNat_natCast]
  · have e : sE r = 10 := by simp [sE]; omega
    have e0 : ¬ sE r = 0 := by omega
    refine (read_none r k w h13 hk).mono fun e1 w' ⟨h1, h2⟩ => ⟨?_, h2⟩
    rw [h1, e]
    simp only [sNo, sA, sB, sC, sW, if_neg e0]
end Go.Proofs.Ytnhffghppjlbaaa
