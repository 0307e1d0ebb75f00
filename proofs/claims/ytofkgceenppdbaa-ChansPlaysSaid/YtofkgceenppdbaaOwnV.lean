/- Rows of any one-cell values: a row of the call's own grown by another row. -/
import Derived.Test.YtofkgceenppdbaaOwn
namespace Go.Proofs.Ytofkgceenppdbaa
open Go.RowKit
set_option linter.unusedVariables false
set_option linter.unusedSimpArgs false
/-- a row of values as it lies -/
def SlV (w : World) (p : Option Addr) (zs : List Value) : Prop := zs = [] ∨ ∃ b o, p = some ⟨b, o, none⟩ ∧ ∀ i u, zs[i]? = some u → w.cell? ⟨b, o + i, none⟩ = some u
theorem SlV.below {w w1 : World} {p : Option Addr} {zs : List Value} (h : SlV w p zs) (hb : Below w.heap.size w w1) : SlV w1 p zs := by
  rcases h with h | ⟨b, o, e, hc⟩
  · exact .inl h
  · exact .inr ⟨b, o, e, fun i u hi => keepc hb (hc i u hi)⟩
theorem addr_add (b o j : Nat) : (⟨b, o, none⟩ : Addr).add j = ⟨b, o + j, none⟩ := by
  unfold Addr.add
  by_cases h : j = 0
  · subst h; simp
  · simp [h]
/-- an element type of one cell -/
structure OneElem (P : Program) (t e : TypeId) (z : Value) (bytes : Nat) : Prop where
  ht : P.underlying t = some (.slice e)
  hi : (P.info? e).map (fun i => (i.zero, i.size, i.bytes)) = some (some z, 1, bytes)
  hz : z.cells.size = 1
  hb : bytes ≤ 24
theorem info_partsV {P : Program} {e : TypeId} {z : Value} {n b : Nat} (h : (P.info? e).map (fun i => (i.zero, i.size, i.bytes)) = some (some z, n, b)) : ∃ i, P.info? e = some i ∧ i.zero = some z ∧ i.size = n ∧ i.bytes = b := by
  cases hq : P.info? e with
  | none => simp [hq] at h
  | some i =>
    simp [hq] at h
    exact ⟨i, rfl, h.1, h.2.1, h.2.2⟩
/-- 'v = append(v, xs...)' of a row of the call's own -/
theorem appV {P : Program} {ops : Array Oper} {rest : List Oper} {o : Oper} {a : Act} {Q : Exit → Act → World → Prop} {w : World} (hgd : o.guard = none) (s x : Operand) (t : TypeId)
    (ho : o.op = .call { callee := .builtin .append, args := #[s, x], argTypes := #[t, t] }) {base e bytes : Nat} {z : Value} (ie : OneElem P t e z bytes) (v : Value) (zs xs : List Value)
    (hs : a.eval s = v) (hown : w.ownsRow base e 1 v zs.length zs) (p : Option Addr) (c : Nat) (hx : a.eval x = .slice p xs.length c) (hp : p = none → xs = [] ∧ c = 0) (hsrc : SlV w p xs) (h1 : ∀ u ∈ xs, u.oneCell' = true)
    (h63 : zs.length + xs.length < 100000000) (hbase : base ≤ w.heap.size)
    (h : ∀ v' w', w'.ownsRow base e 1 v' (zs ++ xs).length (zs ++ xs) → Below base w w' → w.grownBy w' v.ownBlock → wpList P ops Q rest (a.put o.dst v') w') : wpList P ops Q (o :: rest) a w := by
  obtain ⟨i0, hi, hz0, hz1, hz2⟩ := info_partsV ie.hi
  have hb := ie.hb
  cases p with
  | none =>
    obtain ⟨rfl, rfl⟩ := hp rfl
    refine wpList_append_own_none hgd s x t ho base e i0 1 ie.ht hi v zs.length _ hs hown hx ?_
    exact h v w (by simpa using hown) (Below.refl _ _) ⟨rfl, rfl, rfl, Nat.le_refl _, fun _ _ _ => rfl⟩
  | some ad =>
    refine wpList_append_own _ hgd s x t ho base e i0 z 1 bytes ie.ht hi hz0 hz1 hz2 ie.hz (by decide) v zs.length _ hs hown ad xs.length c xs hx (by simp) ?_ h1 ?_ ?_ hbase ?_
    · intro j u hj
      rcases hsrc with h0 | ⟨b, o', e1, hc⟩
      · subst h0
        simp at hj
      · simp only [Option.some.injEq] at e1
        subst e1
        rw [addr_add]
        exact hc j u hj
    · simp [maxLen]; omega
    · have : (zs.length + xs.length) * bytes ≤ (zs.length + xs.length) * 24 := Nat.mul_le_mul_left _ hb
      omega
    · intro v' w' g1 h2 _
      refine h v' w' (by simpa using g1) ?_ h2
      exact ⟨h2.os, h2.tape, h2.output, h2.size, fun k hk => h2.block k (Nat.lt_of_lt_of_le hk hbase) (fun e => by have := (hown.lt k e.symm).1; omega)⟩
/-- a row of none, and of one, just made -/
theorem ownV_none {w : World} {base e : Nat} (hbase : base ≤ w.heap.size) : (w.alloc (.cells #[] e)).ownsRow base e 1 (.slice (some ⟨w.heap.size, 0, none⟩) 0 0) 0 [] :=
  ⟨rfl, .inr ⟨w.heap.size, 0, #[], rfl, hbase, bk_new w _, Nat.le_refl _, by simp [maxLen], rfl, rfl⟩⟩
theorem ownV_one {w : World} {base e : Nat} {u : Value} (hbase : base ≤ w.heap.size) : (w.alloc (.cells #[u] e)).ownsRow base e 1 (.slice (some ⟨w.heap.size, 0, none⟩) 1 1) 1 [u] :=
  ⟨rfl, .inr ⟨w.heap.size, 1, #[u], rfl, hbase, bk_new w _, Nat.le_refl _, by simp [maxLen], rfl, rfl⟩⟩
/-- what it owns, read -/
theorem ownV_sl {w : World} {B : Nat} {e : TypeId} {v : Value} {zs : List Value} (h : w.ownsRow B e 1 v zs.length zs) : ∃ a c, v = .slice a zs.length c ∧ SlV w a zs ∧ (∀ b o, a = some ⟨b, o, none⟩ → B ≤ b ∧ b < w.heap.size) ∧ (a = none → zs = [] ∧ c = 0) ∧ zs.length ≤ c := by
  obtain ⟨_, h⟩ := h
  rcases h with ⟨rfl, h0⟩ | ⟨g, cap, cur, rfl, hb, hg, hn, hm, hs, ht⟩
  · exact ⟨none, 0, by rw [h0], .inl (List.length_eq_zero_iff.1 h0), by simp, fun _ => ⟨List.length_eq_zero_iff.1 h0, rfl⟩, by omega⟩
  · refine ⟨some ⟨g, 0, none⟩, cap, rfl, .inr ⟨g, 0, rfl, fun i u hi => ?_⟩, fun b o e => ?_, by simp, hn⟩
    · rw [bk_cell hg (0 + i), Nat.zero_add]
      have hil := (List.getElem?_eq_some_iff.1 hi).1
      rw [← ht, List.getElem?_take_of_lt (by omega)] at hi
      simpa using hi
    · simp only [Option.some.injEq, Addr.mk.injEq] at e
      rw [← e.1]
      exact ⟨hb, (Array.getElem?_eq_some_iff.1 hg).1⟩
theorem ownV_below {w w1 : World} {B : Nat} {e : TypeId} {v : Value} {n : Nat} {zs : List Value} (h : w.ownsRow B e 1 v n zs) (hb : Below w.heap.size w w1) : w1.ownsRow B e 1 v n zs := by
  obtain ⟨h0, h⟩ := h
  refine ⟨h0, ?_⟩
  rcases h with h | ⟨g, cap, cur, e1, hb1, hg, rest⟩
  · exact .inl h
  · exact .inr ⟨g, cap, cur, e1, hb1, bk_below hg hb, rest⟩
end Go.Proofs.Ytofkgceenppdbaa
