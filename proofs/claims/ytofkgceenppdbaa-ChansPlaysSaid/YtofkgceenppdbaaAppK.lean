/- Appending an element of several cells to a row in a field, in a region that draws. -/
import Derived.Test.YtofkgceenppdbaaRowF
import Derived.Deep.CutRange
import Derived.Deep.AppendLies
import Derived.Deep.RegionLaw
namespace Go.Proofs.Ytofkgceenppdbaa
open Go.RowKit
set_option linter.unusedVariables false
set_option linter.unusedSimpArgs false
theorem own_kept {w w' : World} {B g e k n : Nat} {v : Value} {zs : List Value} (h : w.ownsRow B e k v n zs) (hk : Kept g w w') (hg : g < B) : w'.ownsRow B e k v n zs := by
  obtain ⟨h0, h⟩ := h
  refine ⟨h0, ?_⟩
  rcases h with h | ⟨b, cap, cur, e1, hb1, hg1, rest⟩
  · exact .inl h
  · exact .inr ⟨b, cap, cur, e1, hb1, hk.blk hg1 (by omega), rest⟩
theorem own_nil {w : World} {B e k : Nat} : w.ownsRow B e k (.slice none 0 0) 0 [] := ⟨by simp, .inl ⟨rfl, rfl⟩⟩
theorem own_set {w : World} {B c e k n : Nat} {v : Value} {zs : List Value} (h : w.ownsRow B e k v n zs) (hc : c < B) (i : Nat) (x : Value) : (w.setCell ⟨c, i, none⟩ x).ownsRow B e k v n zs := by
  obtain ⟨h0, h⟩ := h
  refine ⟨h0, ?_⟩
  rcases h with h | ⟨b, cap, cur, e1, hb1, hg1, rest⟩
  · exact .inl h
  · exact .inr ⟨b, cap, cur, e1, hb1, bk_far hg1 (by show b ≠ c; omega) x, rest⟩
theorem own_read {w : World} {B e k n : Nat} {v : Value} {zs : List Value} (h : w.ownsRow B e k v n zs) : ∃ a c, v = .slice a n c ∧ (n = 0 ∨ ∃ b, a = some ⟨b, 0, none⟩ ∧ B ≤ b ∧ ∀ j u, zs[j]? = some u → w.cell? ⟨b, j, none⟩ = some u) := by
  obtain ⟨h0, h⟩ := h
  rcases h with ⟨rfl, e0⟩ | ⟨g, cap, cur, rfl, hb, hg, hn, hm, hs, ht⟩
  · exact ⟨none, 0, by rw [e0], .inl e0⟩
  · refine ⟨some ⟨g, 0, none⟩, cap, rfl, .inr ⟨g, rfl, hb, fun j u hj => ?_⟩⟩
    have hjl := (List.getElem?_eq_some_iff.1 hj).1
    rw [h0] at hjl
    rw [bk_cell hg j]
    rw [← ht, List.getElem?_take_of_lt hjl] at hj
    simpa using hj
/-- 'x.f = append(x.f, E{..})' in a region that draws -/
theorem step_appK {P : Program} {ops : Array Oper} {o : Oper} {a : Act} {w : World} {K : Act → World → Prop} {Q : Exit → Act → World → Prop} {E : Prop} (hgd : o.guard = none) (s x : Operand) (t : TypeId)
    (ho : o.op = .call { callee := .builtin .append, args := #[s, x], argTypes := #[t, t] }) {base e k bytes : Nat} {z : Value} (ie : KElem P t e z k bytes) (v : Value) (n : Nat) (zs : List Value)
    (hs : a.eval s = v) (hown : w.ownsRow base e k v n zs) (b : Nat) (cs : Array Value) (hx : a.eval x = .slice (some ⟨b, 0, none⟩) 1 1) (hb : ∃ t fr, w.heap[b]? = some (.cells cs t fr)) (hk : cs.size = k) (h1 : ∀ u ∈ cs.toList, u.oneCell' = true)
    (h63 : n < 100000000) (hbase : base ≤ w.heap.size)
    (h : ∀ g cap w', w'.ownsRow base e k (.slice (some ⟨g, 0, none⟩) (n + 1) cap) (n + 1) (zs ++ cs.toList) → Below base w w' → w.grownBy w' v.ownBlock → K (a.put o.dst (.slice (some ⟨g, 0, none⟩) (n + 1) cap)) w') :
    if Region.wanted o (yielded ops a.tmps) = true then Oper.wp P o a w K Q else E := by
  obtain ⟨i0, hi, hz0, hz1, hz2⟩ := info_partsV ie.hi
  obtain ⟨t', fr, hb⟩ := hb
  have hb64 := ie.hb
  refine step_append_lies w hgd s x t ho base e i0 z k bytes ie.ht hi hz0 hz1 hz2 ie.hz ie.hk v n zs hs hown ⟨b, 0, none⟩ 1 1 cs.toList hx (by simp [hk]) (World.news_of_block hb) h1 (by decide) (by simp [maxLen]; omega) ?_ hbase _ rfl ?_
  · have : (n + 1) * bytes ≤ (n + 1) * 64 := Nat.mul_le_mul_left _ hb64
    omega
  · intro g cap w' h2 h3 _ _
    exact h g cap w' h2 ⟨h3.os, h3.tape, h3.output, h3.size, fun j hj => h3.block j (Nat.lt_of_lt_of_le hj hbase) (fun e => by have := (hown.lt j e.symm).1; omega)⟩ h3
theorem flat_congr {k n : Nat} {F G : Nat → Nat → Value} (hk : 0 < k) (h : ∀ i r, i < n → r < k → F i r = G i r) : flat k F n = flat k G n := by
  apply List.ext_getElem?
  intro j
  by_cases hj : j < n * k
  · rw [flat_get hj, flat_get hj, h _ _ ((Nat.div_lt_iff_lt_mul hk).2 hj) (Nat.mod_lt _ hk)]
  · rw [List.getElem?_eq_none (by rw [flat_length]; omega), List.getElem?_eq_none (by rw [flat_length]; omega)]
end Go.Proofs.Ytofkgceenppdbaa
