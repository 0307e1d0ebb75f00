/- Helper text of this seat (Own): contracts of functions of the given program and of its references, each told by its theorem. -/
import Derived.Test.YtofkgceenppdbaaBlk
import Derived.Laws.AppendOwn
import Derived.Laws.AppendOwnNone
import Derived.Maps.OwnRows
import Derived.Maps.AppendAt
import Derived.OwnWalk
namespace Go.Proofs.Ytofkgceenppdbaa
open Go.RowKit
set_option linter.unusedVariables false
set_option linter.unusedSimpArgs false
/-- a row of numbers as it lies -/
def Sl (w : World) (q : IntKind) (p : Option Addr) (L : Nat) (X : Nat → Int) : Prop := L = 0 ∨ ∃ b o, p = some ⟨b, o, none⟩ ∧ ∀ i, i < L → w.cell? ⟨b, o + i, none⟩ = some (.int q (X i))
theorem Sl.below {w w1 : World} {q : IntKind} {p : Option Addr} {L : Nat} {X : Nat → Int} (h : Sl w q p L X) (hb : Below w.heap.size w w1) : Sl w1 q p L X := by
  rcases h with h | ⟨b, o, e, hc⟩
  · exact .inl h
  · exact .inr ⟨b, o, e, fun i hi => keepc hb (hc i hi)⟩
theorem grown_below {w w1 : World} (hb : Below w.heap.size w w1) (r : Option Nat) : w.grownBy w1 r := ⟨hb.os, hb.tape, hb.output, hb.size, fun k hk _ => hb.block k hk⟩
theorem own_below {w w1 : World} {B : Nat} {e : TypeId} {q : IntKind} {v : Value} {zs : List Int} (h : w.ownsInts B e q v zs) (hb : Below w.heap.size w w1) : w1.ownsInts B e q v zs :=
  h.kept (grown_below hb none) (by cases v.ownBlock <;> simp)
theorem own_apart {w : World} {B e e' : Nat} {q q' : IntKind} {v v' : Value} {zs zs' : List Int} (h : w.ownsInts B e q v zs) (h' : w.ownsInts B e' q' v' zs') (he : e ≠ e') : v.ownBlock = none ∨ v.ownBlock ≠ v'.ownBlock := by
  obtain ⟨⟨_, h⟩, _⟩ := h
  obtain ⟨⟨_, h'⟩, _⟩ := h'
  rcases h with ⟨rfl, _⟩ | ⟨g, cap, cur, rfl, _, hg, _⟩
  · left; rfl
  · right
    rcases h' with ⟨rfl, _⟩ | ⟨g', cap', cur', rfl, _, hg', _⟩
    · simp [Value.ownBlock]
    · simp only [Value.ownBlock, ne_eq, Option.some.injEq]
      rintro rfl
      rw [hg] at hg'
      simp only [Option.some.injEq, Obj.cells.injEq] at hg'
      exact he hg'.2.1
theorem below_grown {B : Nat} {a w w1 : World} {e : TypeId} {q : IntKind} {v : Value} {zs : List Int} (h : Below B a w) (ho : w.ownsInts B e q v zs) (hB : B ≤ w.heap.size) (hg : w.grownBy w1 v.ownBlock) : Below B a w1 :=
  ⟨hg.os.trans h.os, hg.tape.trans h.tape, hg.output.trans h.output, Nat.le_trans h.size hg.size, fun k hk => (hg.block k (Nat.lt_of_lt_of_le hk hB) (fun e => by have := (ho.1.lt k e.symm).1; omega)).trans (h.block k hk)⟩
/-- what it owns, read -/
theorem own_sl {w : World} {B : Nat} {e : TypeId} {q : IntKind} {v : Value} {zs : List Int} (h : w.ownsInts B e q v zs) : ∃ a c, v = .slice a zs.length c ∧ Sl w q a zs.length (fun i => zs.getD i 0) ∧ (∀ b o, a = some ⟨b, o, none⟩ → B ≤ b ∧ b < w.heap.size) := by
  obtain ⟨⟨_, h⟩, _⟩ := h
  rcases h with ⟨rfl, h0⟩ | ⟨g, cap, cur, rfl, hb, hg, hn, hm, hs, ht⟩
  · exact ⟨none, 0, by rw [h0], .inl h0, by simp⟩
  · refine ⟨some ⟨g, 0, none⟩, cap, rfl, .inr ⟨g, 0, rfl, fun i hi => ?_⟩, fun b o e => ?_⟩
    · rw [bk_cell hg (0 + i), Nat.zero_add]
      have h1 : (cur.toList.take (zs.length * 1))[i]? = (zs.map (Value.int q))[i]? := by rw [ht]
      rw [List.getElem?_take_of_lt (by omega), List.getElem?_map, List.getElem?_eq_getElem hi] at h1
      show cur[i]? = some (Value.int q (zs.getD i 0))
      rw [List.getD_eq_getElem?_getD, List.getElem?_eq_getElem hi]
      simpa using h1
    · simp only [Option.some.injEq, Addr.mk.injEq] at e
      rw [← e.1]
      exact ⟨hb, (Array.getElem?_eq_some_iff.1 hg).1⟩
/-- all that lay there lies as it lay, but for two blocks -/
structure Kept2 (r k : Nat) (w w' : World) : Prop where
  os : w'.os = w.os
  tape : w'.tape = w.tape
  output : w'.output = w.output
  size : w.heap.size ≤ w'.heap.size
  block : ∀ i, i < w.heap.size → i ≠ r → i ≠ k → w'.heap[i]? = w.heap[i]?
theorem Kept2.refl (r k : Nat) (w : World) : Kept2 r k w w := ⟨rfl, rfl, rfl, Nat.le_refl _, fun _ _ _ _ => rfl⟩
theorem Kept2.trans {r k : Nat} {a b c : World} (h : Kept2 r k a b) (j : Kept2 r k b c) : Kept2 r k a c :=
  ⟨j.os.trans h.os, j.tape.trans h.tape, j.output.trans h.output, Nat.le_trans h.size j.size, fun i hi h1 h2 => (j.block i (Nat.lt_of_lt_of_le hi h.size) h1 h2).trans (h.block i hi h1 h2)⟩
theorem Kept.two1 {r k : Nat} {w w' : World} (h : Kept r w w') : Kept2 r k w w' := ⟨h.os, h.tape, h.output, h.size, fun i hi h1 _ => h.block i hi h1⟩
theorem Kept.two2 {r k : Nat} {w w' : World} (h : Kept k w w') : Kept2 r k w w' := ⟨h.os, h.tape, h.output, h.size, fun i hi _ h2 => h.block i hi h2⟩
theorem Kept2.of_below {r k : Nat} {w w' : World} (h : Below w.heap.size w w') : Kept2 r k w w' := ⟨h.os, h.tape, h.output, h.size, fun i hi _ _ => h.block i hi⟩
theorem Kept2.below {r k B : Nat} {a w w' : World} (j : Kept2 r k w w') (h : Below B a w) (hr : B ≤ r) (hk : B ≤ k) (hB : B ≤ w.heap.size) : Below B a w' :=
  ⟨j.os.trans h.os, j.tape.trans h.tape, j.output.trans h.output, Nat.le_trans h.size j.size, fun i hi => (j.block i (Nat.lt_of_lt_of_le hi hB) (by omega) (by omega)).trans (h.block i hi)⟩
theorem Kept2.blk {r k b : Nat} {w w' : World} {o : Obj} (j : Kept2 r k w w') (h : w.heap[b]? = some o) (h1 : b ≠ r) (h2 : b ≠ k) : w'.heap[b]? = some o := (j.block b (Array.getElem?_eq_some_iff.1 h).1 h1 h2).trans h
theorem Kept2.cell {r k : Nat} {w w' : World} (j : Kept2 r k w w') {b o : Nat} {v : Value} (h : w.cell? ⟨b, o, none⟩ = some v) (h1 : b ≠ r) (h2 : b ≠ k) : w'.cell? ⟨b, o, none⟩ = some v := by
  have hlt := block_lt_of_cell h
  rw [← h]
  exact World.cell?_of_block (w := w) (w' := w') (j.block b hlt h1 h2)
theorem Kept.frozen {g : Nat} {w w' : World} (k : Kept g w w') {b o : Nat} (hlt : b < w.heap.size) (hb : b ≠ g) : w'.frozen? ⟨b, o, none⟩ = w.frozen? ⟨b, o, none⟩ := by
  have := k.block b hlt hb
  simp [World.frozen?, this]
theorem bdrew {B : Nat} {a W : World} (h : Below B a W) : Below B a W.drew := ⟨h.os, h.tape, h.output, h.size, h.block⟩
/-- a slice type of whole numbers -/
structure IntElem (P : Program) (t e : TypeId) (q : IntKind) (bytes : Nat) : Prop where
  ht : P.underlying t = some (.slice e)
  hi : (P.info? e).map (fun i => (i.zero, i.size, i.bytes)) = some (some (.int q 0), 1, bytes)
  hb : bytes ≤ 8
/-- 'v = append(v, n)' of a slice of the call's own -/
theorem app1 {P : Program} {ops : Array Oper} {rest : List Oper} {o : Oper} {a : Act} {Q : Exit → Act → World → Prop} {w : World} (hgd : o.guard = none) (s x : Operand) (t : TypeId)
    (ho : o.op = .call { callee := .builtin .append, args := #[s, x], argTypes := #[t, t] }) {base e bytes : Nat} {q : IntKind} (ie : IntElem P t e q bytes) (v : Value) (zs : List Int) (n : Int)
    (hs : a.eval s = v) (hown : w.ownsInts base e q v zs) (hx : a.eval x = .slice (some ⟨w.heap.size, 0, none⟩) 1 1) (hwf : (Lit.int q n).wf = true) (h63 : zs.length < 100000000) (hbase : base ≤ w.heap.size)
    (h : ∀ v' w', w'.ownsInts base e q v' (zs ++ [n]) → Below base w w' → w.grownBy w' v.ownBlock → wpList P ops Q rest (a.put o.dst v') w') : wpList P ops Q (o :: rest) a (w.alloc (.cells #[.int q n] e)) := by
  obtain ⟨i0, hi, hz0, hz1, hz2⟩ := info_parts ie.hi
  have hb := ie.hb
  refine wpList_append_own _ hgd s x t ho base e i0 (.int q 0) 1 bytes ie.ht hi hz0 hz1 hz2 rfl (by decide) v zs.length _ hs (hown.1.alloc _) ⟨w.heap.size, 0, none⟩ 1 1 [.int q n] hx rfl ?_ ?_ ?_ ?_ ?_ ?_
  · intro j u hj
    match j, hj with
    | 0, hj =>
      simp at hj
      subst hj
      simp [Addr.add]
  · intro u hu
    simp at hu
    subst hu
    rfl
  · simp [maxLen]; omega
  · have : (zs.length + 1) * bytes ≤ (zs.length + 1) * 8 := Nat.mul_le_mul_left _ hb
    omega
  · simp; omega
  · intro v' w' h1 h2 _
    have h3 : w.grownBy w' v.ownBlock := (World.grownBy_alloc w _ _).trans h2
    refine h v' w' (hown.appended h1 hwf) ?_ h3
    exact ⟨h3.os, h3.tape, h3.output, h3.size, fun k hk => h3.block k (Nat.lt_of_lt_of_le hk hbase) (fun e => by have := (hown.1.lt k e.symm).1; omega)⟩
/-- a row of one that was just made -/
theorem own_one {w : World} {base e : Nat} {q : IntKind} {n : Int} (hbase : base ≤ w.heap.size) (hwf : (Lit.int q n).wf = true) : (w.alloc (.cells #[.int q n] e)).ownsInts base e q (.slice (some ⟨w.heap.size, 0, none⟩) 1 1) [n] := by
  refine ⟨⟨rfl, .inr ⟨w.heap.size, 1, #[.int q n], rfl, hbase, bk_new w _, Nat.le_refl _, by simp [maxLen], rfl, rfl⟩⟩, fun z hz => ?_⟩
  simp at hz
  subst hz
  exact hwf
/-- 'v = append(v, xs...)' of a slice of the call's own -/
theorem appN {P : Program} {ops : Array Oper} {rest : List Oper} {o : Oper} {a : Act} {Q : Exit → Act → World → Prop} {w : World} (hgd : o.guard = none) (s x : Operand) (t : TypeId)
    (ho : o.op = .call { callee := .builtin .append, args := #[s, x], argTypes := #[t, t] }) {base e bytes : Nat} {q : IntKind} (ie : IntElem P t e q bytes) (v : Value) (zs xs : List Int)
    (hs : a.eval s = v) (hown : w.ownsInts base e q v zs) (p : Option Addr) (c : Nat) (hx : a.eval x = .slice p xs.length c) (hp : p = none → xs = [] ∧ c = 0) (hsrc : Sl w q p xs.length (fun i => xs.getD i 0)) (hwf : ∀ z ∈ xs, (Lit.int q z).wf = true)
    (h63 : zs.length + xs.length < 100000000) (hbase : base ≤ w.heap.size)
    (h : ∀ v' w', w'.ownsInts base e q v' (zs ++ xs) → Below base w w' → w.grownBy w' v.ownBlock → wpList P ops Q rest (a.put o.dst v') w') : wpList P ops Q (o :: rest) a w := by
  obtain ⟨i0, hi, hz0, hz1, hz2⟩ := info_parts ie.hi
  have hb := ie.hb
  cases p with
  | none =>
    obtain ⟨rfl, rfl⟩ := hp rfl
    refine wpList_append_own_none hgd s x t ho base e i0 1 ie.ht hi v zs.length _ hs hown.1 hx ?_
    exact h v w (by simpa using hown) (Below.refl _ _) ⟨rfl, rfl, rfl, Nat.le_refl _, fun _ _ _ => rfl⟩
  | some ad =>
    refine wpList_append_own _ hgd s x t ho base e i0 (.int q 0) 1 bytes ie.ht hi hz0 hz1 hz2 rfl (by decide) v zs.length _ hs hown.1 ad xs.length c (xs.map (Value.int q)) hx (by simp) ?_ ?_ ?_ ?_ hbase ?_
    · intro j u hj
      rcases hsrc with h0 | ⟨b, o', e1, hc⟩
      · have : xs = [] := List.length_eq_zero_iff.1 h0
        subst this
        simp at hj
      · simp only [Option.some.injEq] at e1
        subst e1
        have hjl : j < xs.length := by
          have := (List.getElem?_eq_some_iff.1 hj).1
          simpa using this
        have e2 : (⟨b, o', none⟩ : Addr).add j = ⟨b, o' + j, none⟩ := by
          unfold Addr.add
          by_cases h : j = 0
          · subst h; simp
          · simp [h]
        rw [e2, hc j hjl]
        rw [List.getElem?_map, List.getElem?_eq_getElem hjl] at hj
        simp only [Option.map_some, Option.some.injEq] at hj
        rw [← hj]
        simp [List.getD_eq_getElem?_getD, hjl]
    · intro u hu
      obtain ⟨z, _, rfl⟩ := List.mem_map.1 hu
      rfl
    · simp [maxLen]; omega
    · have : (zs.length + xs.length) * bytes ≤ (zs.length + xs.length) * 8 := Nat.mul_le_mul_left _ hb
      omega
    · intro v' w' h1 h2 _
      refine h v' w' ⟨by simpa using h1, fun z hz => ?_⟩ ?_ h2
      · rcases List.mem_append.1 hz with hz | hz
        · exact hown.2 z hz
        · exact hwf z hz
      · exact ⟨h2.os, h2.tape, h2.output, h2.size, fun k hk => h2.block k (Nat.lt_of_lt_of_le hk hbase) (fun e => by have := (hown.1.lt k e.symm).1; omega)⟩
end Go.Proofs.Ytofkgceenppdbaa
