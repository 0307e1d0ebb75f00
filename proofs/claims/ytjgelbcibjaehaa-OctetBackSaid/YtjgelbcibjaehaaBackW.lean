/- Helper text of this seat (BackW): contracts of functions of the given program and of its references, each told by its theorem. -/
import Derived.Test.YtjgelbcibjaehaaBackP
import Derived.Test.YtjgelbcibjaehaaRRdr
import Derived.Deep.RegionWith
import Derived.Deep.RegionHeld3
import Derived.Laws.AppendOwn
import Derived.Maps.OwnRows
import Derived.Test.YtjgelbcibjaehaaReads
namespace Go.Proofs.Ytjgelbcibjaehaa
open Go.RowKit
set_option linter.unusedVariables false
set_option linter.unusedSimpArgs false
/-- a row of numbers as it lies -/
def Sl (w : World) (q : IntKind) (p : Option Addr) (L : Nat) (X : Nat → Int) : Prop := L = 0 ∨ ∃ b o, p = some ⟨b, o, none⟩ ∧ ∀ i, i < L → w.cell? ⟨b, o + i, none⟩ = some (.int q (X i))
theorem grown_below {w w1 : World} (hb : Below w.heap.size w w1) (r : Option Nat) : w.grownBy w1 r := ⟨hb.os, hb.tape, hb.output, hb.size, fun k hk _ => hb.block k hk⟩
theorem own_below {w w1 : World} {B : Nat} {e : TypeId} {q : IntKind} {v : Value} {zs : List Int} (h : w.ownsInts B e q v zs) (hb : Below w.heap.size w w1) : w1.ownsInts B e q v zs :=
  h.kept (grown_below hb none) (by cases v.ownBlock <;> simp)
theorem own_apart {w : World} {B e e' : Nat} {q q' : IntKind} {v v' : Value} {zs zs' : List Int} (h : w.ownsInts B e q v zs) (h' : w.ownsInts B e' q' v' zs') (he : e ≠ e') : v.ownBlock = none ∨ v.ownBlock ≠ v'.ownBlock := by
  obtain ⟨⟨_, h⟩, _⟩ := h
  obtain ⟨⟨_, h'⟩, _⟩ := h'
  rcases h with ⟨rfl, _⟩ | ⟨g, cap, cur, rfl, _, hg, _⟩
  · left; rfl
  · right
    rcases h' with ⟨rfl, _⟩ | ⟨g', cap', cur', rfl, _, hg', _⟩
    · simp [Value.ownBlock]
    · simp only [Value.ownBlock, ne_eq, Option.some.injEq]
      rintro rfl
      rw [hg] at hg'
      simp only [Option.some.injEq, Obj.cells.injEq] at hg'
      exact he hg'.2.1
theorem below_grown {B : Nat} {a w w1 : World} {e : TypeId} {q : IntKind} {v : Value} {zs : List Int} (h : Below B a w) (ho : w.ownsInts B e q v zs) (hB : B ≤ w.heap.size) (hg : w.grownBy w1 v.ownBlock) : Below B a w1 :=
  ⟨hg.os.trans h.os, hg.tape.trans h.tape, hg.output.trans h.output, Nat.le_trans h.size hg.size, fun k hk => (hg.block k (Nat.lt_of_lt_of_le hk hB) (fun e => by have := (ho.1.lt k e.symm).1; omega)).trans (h.block k hk)⟩
/-- what it owns, read -/
theorem own_sl {w : World} {B : Nat} {e : TypeId} {q : IntKind} {v : Value} {zs : List Int} (h : w.ownsInts B e q v zs) : ∃ a c, v = .slice a zs.length c ∧ Sl w q a zs.length (fun i => zs.getD i 0) ∧ (∀ b o, a = some ⟨b, o, none⟩ → b < w.heap.size) := by
  obtain ⟨⟨_, h⟩, _⟩ := h
  rcases h with ⟨rfl, h0⟩ | ⟨g, cap, cur, rfl, hb, hg, hn, hm, hs, ht⟩
  · exact ⟨none, 0, by rw [h0], .inl h0, by simp⟩
  · refine ⟨some ⟨g, 0, none⟩, cap, rfl, .inr ⟨g, 0, rfl, fun i hi => ?_⟩, fun b o e => ?_⟩
    · rw [bk_cell hg (0 + i), Nat.zero_add]
      have h1 : (cur.toList.take (zs.length * 1))[i]? = (zs.map (Value.int q))[i]? := by rw [ht]
      rw [List.getElem?_take_of_lt (by omega), List.getElem?_map, List.getElem?_eq_getElem hi] at h1
      show cur[i]? = some (Value.int q (zs.getD i 0))
      rw [List.getD_eq_getElem?_getD, List.getElem?_eq_getElem hi]
      simpa using h1
    · simp only [Option.some.injEq, Addr.mk.injEq] at e
      rw [← e.1]
      exact (Array.getElem?_eq_some_iff.1 hg).1
end Go.Proofs.Ytjgelbcibjaehaa
