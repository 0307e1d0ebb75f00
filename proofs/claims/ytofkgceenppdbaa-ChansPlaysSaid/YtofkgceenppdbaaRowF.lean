/- Rows of elements of several cells: a row of the call's own grown by another row. -/
import Derived.Test.YtofkgceenppdbaaOwnV
namespace Go.Proofs.Ytofkgceenppdbaa
open Go.RowKit
set_option linter.unusedVariables false
set_option linter.unusedSimpArgs false
/-- elements of k cells, laid out flat -/
def flat (k : Nat) (F : Nat → Nat → Value) (n : Nat) : List Value := (List.range (n * k)).map fun j => F (j / k) (j % k)
theorem flat_length (k : Nat) (F : Nat → Nat → Value) (n : Nat) : (flat k F n).length = n * k := by simp [flat]
theorem flat_get {k : Nat} {F : Nat → Nat → Value} {n j : Nat} (h : j < n * k) : (flat k F n)[j]? = some (F (j / k) (j % k)) := by
  unfold flat
  rw [List.getElem?_map, List.getElem?_range h]
  rfl
theorem flat_at {k : Nat} {F : Nat → Nat → Value} {n i r : Nat} (hi : i < n) (hr : r < k) : (flat k F n)[i * k + r]? = some (F i r) := by
  have h1 : i * k + r < n * k := by
    have := Nat.mul_le_mul_right k (show i + 1 ≤ n from hi)
    rw [Nat.add_mul, Nat.one_mul] at this
    omega
  rw [flat_get h1, Nat.mul_comm i k, Nat.mul_add_div (by omega), Nat.mul_add_mod, Nat.div_eq_of_lt hr, Nat.mod_eq_of_lt hr, Nat.add_zero]
theorem flat_zero (k : Nat) (F : Nat → Nat → Value) : flat k F 0 = [] := by simp [flat]
theorem flat_succ {k : Nat} (hk : 0 < k) (F : Nat → Nat → Value) (n : Nat) : flat k F (n + 1) = flat k F n ++ (List.range k).map (F n) := by
  apply List.ext_getElem?
  intro j
  by_cases h1 : j < n * k
  · rw [List.getElem?_append_left (by rw [flat_length]; exact h1), flat_get h1, flat_get (by rw [Nat.add_mul]; omega)]
  · rw [List.getElem?_append_right (by rw [flat_length]; omega), flat_length]
    by_cases h2 : j < (n + 1) * k
    · rw [Nat.add_mul, Nat.one_mul] at h2
      obtain ⟨r, rfl⟩ : ∃ r, j = n * k + r := ⟨j - n * k, by omega⟩
      rw [flat_at (by omega) (by omega), show n * k + r - n * k = r by omega, List.getElem?_map, List.getElem?_range (by omega)]
      rfl
    · rw [List.getElem?_eq_none (by rw [flat_length]; omega), List.getElem?_eq_none (by simp; rw [Nat.add_mul, Nat.one_mul] at h2; omega)]
theorem flat_one {k : Nat} {F : Nat → Nat → Value} {n : Nat} (h : ∀ i r, r < k → (F i r).oneCell' = true) (hk : 0 < k) : ∀ u ∈ flat k F n, u.oneCell' = true := by
  intro u hu
  obtain ⟨j, _, rfl⟩ := List.mem_map.1 hu
  exact h _ _ (Nat.mod_lt _ hk)
/-- the row as it lies -/
def SlF (w : World) (k : Nat) (p : Option Addr) (n : Nat) (F : Nat → Nat → Value) : Prop := n = 0 ∨ ∃ b o, p = some ⟨b, o, none⟩ ∧ ∀ i, i < n → ∀ r, r < k → w.cell? ⟨b, o + i * k + r, none⟩ = some (F i r)
theorem SlF.below {w w1 : World} {k : Nat} {p : Option Addr} {n : Nat} {F : Nat → Nat → Value} (h : SlF w k p n F) (hb : Below w.heap.size w w1) : SlF w1 k p n F := by
  rcases h with h | ⟨b, o, e, hc⟩
  · exact .inl h
  · exact .inr ⟨b, o, e, fun i hi r hr => keepc hb (hc i hi r hr)⟩
/-- an element type of k cells -/
structure KElem (P : Program) (t e : TypeId) (z : Value) (k bytes : Nat) : Prop where
  ht : P.underlying t = some (.slice e)
  hi : (P.info? e).map (fun i => (i.zero, i.size, i.bytes)) = some (some z, k, bytes)
  hz : z.cells.size = k
  hk : 0 < k
  hb : bytes ≤ 64
/-- 'v = append(v, xs...)' of a row of the call's own -/
theorem appF {P : Program} {ops : Array Oper} {rest : List Oper} {o : Oper} {a : Act} {Q : Exit → Act → World → Prop} {w : World} (hgd : o.guard = none) (s x : Operand) (t : TypeId)
    (ho : o.op = .call { callee := .builtin .append, args := #[s, x], argTypes := #[t, t] }) {base e k bytes : Nat} {z : Value} (ie : KElem P t e z k bytes) (v : Value) (n : Nat) (zs : List Value)
    (hs : a.eval s = v) (hown : w.ownsRow base e k v n zs) (p : Option Addr) (m c : Nat) (G : Nat → Nat → Value) (hx : a.eval x = .slice p m c) (hp : p = none → m = 0 ∧ c = 0) (hsrc : SlF w k p m G) (h1 : ∀ i r, r < k → (G i r).oneCell' = true)
    (h63 : n + m < 100000000) (hbase : base ≤ w.heap.size)
    (h : ∀ v' w', w'.ownsRow base e k v' (n + m) (zs ++ flat k G m) → Below base w w' → w.grownBy w' v.ownBlock → wpList P ops Q rest (a.put o.dst v') w') : wpList P ops Q (o :: rest) a w := by
  obtain ⟨i0, hi, hz0, hz1, hz2⟩ := info_partsV ie.hi
  have hb := ie.hb
  cases p with
  | none =>
    obtain ⟨rfl, rfl⟩ := hp rfl
    refine wpList_append_own_none hgd s x t ho base e i0 k ie.ht hi v n _ hs hown hx ?_
    exact h v w (by rw [flat_zero, List.append_nil]; exact hown) (Below.refl _ _) ⟨rfl, rfl, rfl, Nat.le_refl _, fun _ _ _ => rfl⟩
  | some ad =>
    refine wpList_append_own _ hgd s x t ho base e i0 z k bytes ie.ht hi hz0 hz1 hz2 ie.hz ie.hk v n _ hs hown ad m c (flat k G m) hx (flat_length k G m) ?_ (flat_one h1 ie.hk) ?_ ?_ hbase ?_
    · intro j u hj
      have hjl : j < m * k := by
        have := (List.getElem?_eq_some_iff.1 hj).1
        rwa [flat_length] at this
      rcases hsrc with h0 | ⟨b, o', e1, hc⟩
      · subst h0
        simp at hjl
      · simp only [Option.some.injEq] at e1
        subst e1
        rw [flat_get hjl] at hj
        simp only [Option.some.injEq] at hj
        subst hj
        rw [addr_add]
        have hkk := ie.hk
        have := hc (j / k) ((Nat.div_lt_iff_lt_mul hkk).2 hjl) (j % k) (Nat.mod_lt _ hkk)
        rwa [Nat.add_assoc, Nat.mul_comm (j / k) k, Nat.div_add_mod] at this
    · simp [maxLen]; omega
    · have : (n + m) * bytes ≤ (n + m) * 64 := Nat.mul_le_mul_left _ hb
      omega
    · intro v' w' g1 h2 _
      refine h v' w' g1 ?_ h2
      exact ⟨h2.os, h2.tape, h2.output, h2.size, fun k hk => h2.block k (Nat.lt_of_lt_of_le hk hbase) (fun e => by have := (hown.lt k e.symm).1; omega)⟩
theorem ownF_none {w : World} {base e k : Nat} (hbase : base ≤ w.heap.size) : (w.alloc (.cells #[] e)).ownsRow base e k (.slice (some ⟨w.heap.size, 0, none⟩) 0 0) 0 [] :=
  ⟨by simp, .inr ⟨w.heap.size, 0, #[], rfl, hbase, bk_new w _, Nat.le_refl _, by simp [maxLen], by simp, by simp⟩⟩
/-- what it owns, read -/
theorem ownF_sl {w : World} {B : Nat} {e k : Nat} {v : Value} {n : Nat} {F : Nat → Nat → Value} (h : w.ownsRow B e k v n (flat k F n)) : ∃ a c, v = .slice a n c ∧ SlF w k a n F ∧ (∀ b o, a = some ⟨b, o, none⟩ → B ≤ b ∧ b < w.heap.size ∧ o = 0) ∧ (a = none → n = 0 ∧ c = 0) ∧ n ≤ c := by
  obtain ⟨_, h⟩ := h
  rcases h with ⟨rfl, h0⟩ | ⟨g, cap, cur, rfl, hb, hg, hn, hm, hs, ht⟩
  · exact ⟨none, 0, by rw [h0], .inl h0, by simp, fun _ => ⟨h0, rfl⟩, by omega⟩
  · refine ⟨some ⟨g, 0, none⟩, cap, rfl, .inr ⟨g, 0, rfl, fun i hi r hr => ?_⟩, fun b o e => ?_, by simp, hn⟩
    · have hfa := flat_at (F := F) hi hr
      have hlt : i * k + r < n * k := by
        have := (List.getElem?_eq_some_iff.1 hfa).1
        rwa [flat_length] at this
      rw [bk_cell hg (0 + i * k + r), Nat.zero_add]
      rw [← ht, List.getElem?_take_of_lt hlt] at hfa
      simpa using hfa
    · simp only [Option.some.injEq, Addr.mk.injEq, and_true] at e
      obtain ⟨rfl, rfl⟩ := e
      exact ⟨hb, (Array.getElem?_eq_some_iff.1 hg).1, rfl⟩
end Go.Proofs.Ytofkgceenppdbaa
