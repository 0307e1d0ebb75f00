/- Helper text of this seat (ZA): contracts of functions of the given program and of its references, and the laws' plain parts, each told by its theorem. Conditions: as each theorem names them. -/
import Derived.Test.YthgoighpmnecbaaProg
import Derived.Handy
import Derived.KernelRfl
import Derived.Laws.Rows
import Derived.Deep.Draws
import Derived.StillTailTactics
import Derived.Laws.Tables
import Derived.Laws.AppendOwn
import Derived.Laws.AppendOwnNone
import Derived.Maps.OwnRows
import Derived.Maps.AppendAt
import Derived.OwnWalk
import Derived.Lib.Hide
import Derived.Defers
import Derived.Recover
import Derived.Laws.Pointers
import Derived.WalkLawsBesides
import Derived.Outline
namespace Go.Proofs.Ythgoighpmnecbaa
open Go.RowKit
theorem bcell {W w1 : World} (hb : Below W.heap.size W w1) : (∀ b o, b < W.heap.size → w1.cell? ⟨b, o, none⟩ = W.cell? ⟨b, o, none⟩) ∧ (∀ b o, b < W.heap.size → w1.frozen? ⟨b, o, none⟩ = W.frozen? ⟨b, o, none⟩) :=
  ⟨fun b o h => hb.cell (p := ⟨b, o, none⟩) h, fun b o h => hb.frozen (p := ⟨b, o, none⟩) h⟩
theorem bstep {a W w1 : World} (h : Below a.heap.size a W) (hb : Below W.heap.size W w1) : Below a.heap.size a w1 := h.trans (hb.mono h.size)
theorem bdrewN {B : Nat} {a W : World} (h : Below B a W) (n : Nat) : Below B a (W.drewN n) := ⟨h.os, h.tape, h.output, h.size, h.block⟩
theorem keepc {W w1 : World} (hb : Below W.heap.size W w1) {b o : Nat} {v : Value} (h : W.cell? ⟨b, o, none⟩ = some v) : w1.cell? ⟨b, o, none⟩ = some v := (hb.cell (block_lt_of_cell h)).trans h
/-- all that lay there lies as it lay, but for block g -/
structure Kept (g : Nat) (w w' : World) : Prop where
  os : w'.os = w.os
  tape : w'.tape = w.tape
  output : w'.output = w.output
  size : w.heap.size ≤ w'.heap.size
  block : ∀ k, k < w.heap.size → k ≠ g → w'.heap[k]? = w.heap[k]?
theorem Kept.refl (g : Nat) (w : World) : Kept g w w := ⟨rfl, rfl, rfl, Nat.le_refl _, fun _ _ _ => rfl⟩
theorem Kept.trans {g : Nat} {a b c : World} (h : Kept g a b) (k : Kept g b c) : Kept g a c :=
  ⟨k.os.trans h.os, k.tape.trans h.tape, k.output.trans h.output, Nat.le_trans h.size k.size, fun i hi hg => (k.block i (Nat.lt_of_lt_of_le hi h.size) hg).trans (h.block i hi hg)⟩
theorem Kept.of_below {g : Nat} {w w' : World} (h : Below w.heap.size w w') : Kept g w w' := ⟨h.os, h.tape, h.output, h.size, fun k hk _ => h.block k hk⟩
theorem Kept.then_below {g : Nat} {a w w' : World} (k : Kept g a w) (h : Below w.heap.size w w') : Kept g a w' := k.trans (.of_below h)
theorem Kept.setCell {g : Nat} {a w : World} (k : Kept g a w) (i : Nat) (v : Value) : Kept g a (w.setCell ⟨g, i, none⟩ v) :=
  ⟨k.os, k.tape, k.output, by simpa using k.size, fun j hj hg => (Below.heap_setCell w ⟨g, i, none⟩ v j hg).trans (k.block j hj hg)⟩
theorem Kept.drewN {g : Nat} {a w : World} (k : Kept g a w) (n : Nat) : Kept g a (w.drewN n) := ⟨k.os, k.tape, k.output, k.size, k.block⟩
theorem Kept.drew {g : Nat} {a w : World} (k : Kept g a w) : Kept g a w.drew := ⟨k.os, k.tape, k.output, k.size, k.block⟩
theorem Kept.below {g B : Nat} {a w w' : World} (h : Below B a w) (k : Kept g w w') (hg : B ≤ g) (hB : B ≤ w.heap.size) : Below B a w' :=
  ⟨k.os.trans h.os, k.tape.trans h.tape, k.output.trans h.output, Nat.le_trans h.size k.size, fun i hi => (k.block i (Nat.lt_of_lt_of_le hi hB) (by omega)).trans (h.block i hi)⟩
theorem Kept.blk {g b : Nat} {w w' : World} {o : Obj} (k : Kept g w w') (h : w.heap[b]? = some o) (hb : b ≠ g) : w'.heap[b]? = some o := (k.block b (Array.getElem?_eq_some_iff.1 h).1 hb).trans h
theorem Kept.cell {g : Nat} {w w' : World} (k : Kept g w w') {b o : Nat} {v : Value} (h : w.cell? ⟨b, o, none⟩ = some v) (hb : b ≠ g) : w'.cell? ⟨b, o, none⟩ = some v := by
  have hlt := block_lt_of_cell h
  rw [← h]
  exact World.cell?_of_block (w := w) (w' := w') (k.block b hlt hb)
@[go_sem] theorem lt_0_2 (n : Nat) : n < n + 1 + 1 := by omega
@[go_sem] theorem lt_0_3 (n : Nat) : n < n + 1 + 1 + 1 := by omega
@[go_sem] theorem lt_0_4 (n : Nat) : n < n + 1 + 1 + 1 + 1 := by omega
@[go_sem] theorem lt_0_5 (n : Nat) : n < n + 1 + 1 + 1 + 1 + 1 := by omega
@[go_sem] theorem lt_0_6 (n : Nat) : n < n + 1 + 1 + 1 + 1 + 1 + 1 := by omega
@[go_sem] theorem lt_0_7 (n : Nat) : n < n + 1 + 1 + 1 + 1 + 1 + 1 + 1 := by omega
@[go_sem] theorem lt_0_8 (n : Nat) : n < n + 1 + 1 + 1 + 1 + 1 + 1 + 1 + 1 := by omega
@[go_sem] theorem lt_0_9 (n : Nat) : n < n + 1 + 1 + 1 + 1 + 1 + 1 + 1 + 1 + 1 := by omega
@[go_sem] theorem lt_0_10 (n : Nat) : n < n + 1 + 1 + 1 + 1 + 1 + 1 + 1 + 1 + 1 + 1 := by omega
@[go_sem] theorem lt_0_11 (n : Nat) : n < n + 1 + 1 + 1 + 1 + 1 + 1 + 1 + 1 + 1 + 1 + 1 := by omega
@[go_sem] theorem lt_0_12 (n : Nat) : n < n + 1 + 1 + 1 + 1 + 1 + 1 + 1 + 1 + 1 + 1 + 1 + 1 := by omega
@[go_sem] theorem lt_1_3 (n : Nat) : n + 1 < n + 1 + 1 + 1 := by omega
@[go_sem] theorem lt_1_4 (n : Nat) : n + 1 < n + 1 + 1 + 1 + 1 := by omega
@[go_sem] theorem lt_1_5 (n : Nat) : n + 1 < n + 1 + 1 + 1 + 1 + 1 := by omega
@[go_sem] theorem lt_1_6 (n : Nat) : n + 1 < n + 1 + 1 + 1 + 1 + 1 + 1 := by omega
@[go_sem] theorem lt_1_7 (n : Nat) : n + 1 < n + 1 + 1 + 1 + 1 + 1 + 1 + 1 := by omega
@[go_sem] theorem lt_1_8 (n : Nat) : n + 1 < n + 1 + 1 + 1 + 1 + 1 + 1 + 1 + 1 := by omega
@[go_sem] theorem lt_1_9 (n : Nat) : n + 1 < n + 1 + 1 + 1 + 1 + 1 + 1 + 1 + 1 + 1 := by omega
@[go_sem] theorem lt_1_10 (n : Nat) : n + 1 < n + 1 + 1 + 1 + 1 + 1 + 1 + 1 + 1 + 1 + 1 := by omega
@[go_sem] theorem lt_1_11 (n : Nat) : n + 1 < n + 1 + 1 + 1 + 1 + 1 + 1 + 1 + 1 + 1 + 1 + 1 := by omega
@[go_sem] theorem lt_1_12 (n : Nat) : n + 1 < n + 1 + 1 + 1 + 1 + 1 + 1 + 1 + 1 + 1 + 1 + 1 + 1 := by omega
@[go_sem] theorem lt_2_4 (n : Nat) : n + 1 + 1 < n + 1 + 1 + 1 + 1 := by omega
@[go_sem] theorem lt_2_5 (n : Nat) : n + 1 + 1 < n + 1 + 1 + 1 + 1 + 1 := by omega
@[go_sem] theorem lt_2_6 (n : Nat) : n + 1 + 1 < n + 1 + 1 + 1 + 1 + 1 + 1 := by omega
@[go_sem] theorem lt_2_7 (n : Nat) : n + 1 + 1 < n + 1 + 1 + 1 + 1 + 1 + 1 + 1 := by omega
@[go_sem] theorem lt_2_8 (n : Nat) : n + 1 + 1 < n + 1 + 1 + 1 + 1 + 1 + 1 + 1 + 1 := by omega
@[go_sem] theorem lt_2_9 (n : Nat) : n + 1 + 1 < n + 1 + 1 + 1 + 1 + 1 + 1 + 1 + 1 + 1 := by omega
@[go_sem] theorem lt_2_10 (n : Nat) : n + 1 + 1 < n + 1 + 1 + 1 + 1 + 1 + 1 + 1 + 1 + 1 + 1 := by omega
@[go_sem] theorem lt_2_11 (n : Nat) : n + 1 + 1 < n + 1 + 1 + 1 + 1 + 1 + 1 + 1 + 1 + 1 + 1 + 1 := by omega
@[go_sem] theorem lt_2_12 (n : Nat) : n + 1 + 1 < n + 1 + 1 + 1 + 1 + 1 + 1 + 1 + 1 + 1 + 1 + 1 + 1 := by omega
@[go_sem] theorem lt_3_5 (n : Nat) : n + 1 + 1 + 1 < n + 1 + 1 + 1 + 1 + 1 := by omega
@[go_sem] theorem lt_3_6 (n : Nat) : n + 1 + 1 + 1 < n + 1 + 1 + 1 + 1 + 1 + 1 := by omega
@[go_sem] theorem lt_3_7 (n : Nat) : n + 1 + 1 + 1 < n + 1 + 1 + 1 + 1 + 1 + 1 + 1 := by omega
@[go_sem] theorem lt_3_8 (n : Nat) : n + 1 + 1 + 1 < n + 1 + 1 + 1 + 1 + 1 + 1 + 1 + 1 := by omega
@[go_sem] theorem lt_3_9 (n : Nat) : n + 1 + 1 + 1 < n + 1 + 1 + 1 + 1 + 1 + 1 + 1 + 1 + 1 := by omega
@[go_sem] theorem lt_3_10 (n : Nat) : n + 1 + 1 + 1 < n + 1 + 1 + 1 + 1 + 1 + 1 + 1 + 1 + 1 + 1 := by omega
@[go_sem] theorem lt_3_11 (n : Nat) : n + 1 + 1 + 1 < n + 1 + 1 + 1 + 1 + 1 + 1 + 1 + 1 + 1 + 1 + 1 := by omega
@[go_sem] theorem lt_3_12 (n : Nat) : n + 1 + 1 + 1 < n + 1 + 1 + 1 + 1 + 1 + 1 + 1 + 1 + 1 + 1 + 1 + 1 := by omega
@[go_sem] theorem lt_4_6 (n : Nat) : n + 1 + 1 + 1 + 1 < n + 1 + 1 + 1 + 1 + 1 + 1 := by omega
@[go_sem] theorem lt_4_7 (n : Nat) : n + 1 + 1 + 1 + 1 < n + 1 + 1 + 1 + 1 + 1 + 1 + 1 := by omega
@[go_sem] theorem lt_4_8 (n : Nat) : n + 1 + 1 + 1 + 1 < n + 1 + 1 + 1 + 1 + 1 + 1 + 1 + 1 := by omega
@[go_sem] theorem lt_4_9 (n : Nat) : n + 1 + 1 + 1 + 1 < n + 1 + 1 + 1 + 1 + 1 + 1 + 1 + 1 + 1 := by omega
@[go_sem] theorem lt_4_10 (n : Nat) : n + 1 + 1 + 1 + 1 < n + 1 + 1 + 1 + 1 + 1 + 1 + 1 + 1 + 1 + 1 := by omega
@[go_sem] theorem lt_4_11 (n : Nat) : n + 1 + 1 + 1 + 1 < n + 1 + 1 + 1 + 1 + 1 + 1 + 1 + 1 + 1 + 1 + 1 := by omega
@[go_sem] theorem lt_4_12 (n : Nat) : n + 1 + 1 + 1 + 1 < n + 1 + 1 + 1 + 1 + 1 + 1 + 1 + 1 + 1 + 1 + 1 + 1 := by omega
@[go_sem] theorem lt_5_7 (n : Nat) : n + 1 + 1 + 1 + 1 + 1 < n + 1 + 1 + 1 + 1 + 1 + 1 + 1 := by omega
@[go_sem] theorem lt_5_8 (n : Nat) : n + 1 + 1 + 1 + 1 + 1 < n + 1 + 1 + 1 + 1 + 1 + 1 + 1 + 1 := by omega
@[go_sem] theorem lt_5_9 (n : Nat) : n + 1 + 1 + 1 + 1 + 1 < n + 1 + 1 + 1 + 1 + 1 + 1 + 1 + 1 + 1 := by omega
@[go_sem] theorem lt_5_10 (n : Nat) : n + 1 + 1 + 1 + 1 + 1 < n + 1 + 1 + 1 + 1 + 1 + 1 + 1 + 1 + 1 + 1 := by omega
@[go_sem] theorem lt_5_11 (n : Nat) : n + 1 + 1 + 1 + 1 + 1 < n + 1 + 1 + 1 + 1 + 1 + 1 + 1 + 1 + 1 + 1 + 1 := by omega
@[go_sem] theorem lt_5_12 (n : Nat) : n + 1 + 1 + 1 + 1 + 1 < n + 1 + 1 + 1 + 1 + 1 + 1 + 1 + 1 + 1 + 1 + 1 + 1 := by omega
@[go_sem] theorem lt_6_8 (n : Nat) : n + 1 + 1 + 1 + 1 + 1 + 1 < n + 1 + 1 + 1 + 1 + 1 + 1 + 1 + 1 := by omega
@[go_sem] theorem lt_6_9 (n : Nat) : n + 1 + 1 + 1 + 1 + 1 + 1 < n + 1 + 1 + 1 + 1 + 1 + 1 + 1 + 1 + 1 := by omega
@[go_sem] theorem lt_6_10 (n : Nat) : n + 1 + 1 + 1 + 1 + 1 + 1 < n + 1 + 1 + 1 + 1 + 1 + 1 + 1 + 1 + 1 + 1 := by omega
@[go_sem] theorem lt_6_11 (n : Nat) : n + 1 + 1 + 1 + 1 + 1 + 1 < n + 1 + 1 + 1 + 1 + 1 + 1 + 1 + 1 + 1 + 1 + 1 := by omega
@[go_sem] theorem lt_6_12 (n : Nat) : n + 1 + 1 + 1 + 1 + 1 + 1 < n + 1 + 1 + 1 + 1 + 1 + 1 + 1 + 1 + 1 + 1 + 1 + 1 := by omega
@[go_sem] theorem lt_7_9 (n : Nat) : n + 1 + 1 + 1 + 1 + 1 + 1 + 1 < n + 1 + 1 + 1 + 1 + 1 + 1 + 1 + 1 + 1 := by omega
@[go_sem] theorem lt_7_10 (n : Nat) : n + 1 + 1 + 1 + 1 + 1 + 1 + 1 < n + 1 + 1 + 1 + 1 + 1 + 1 + 1 + 1 + 1 + 1 := by omega
@[go_sem] theorem lt_7_11 (n : Nat) : n + 1 + 1 + 1 + 1 + 1 + 1 + 1 < n + 1 + 1 + 1 + 1 + 1 + 1 + 1 + 1 + 1 + 1 + 1 := by omega
@[go_sem] theorem lt_7_12 (n : Nat) : n + 1 + 1 + 1 + 1 + 1 + 1 + 1 < n + 1 + 1 + 1 + 1 + 1 + 1 + 1 + 1 + 1 + 1 + 1 + 1 := by omega
@[go_sem] theorem lt_8_10 (n : Nat) : n + 1 + 1 + 1 + 1 + 1 + 1 + 1 + 1 < n + 1 + 1 + 1 + 1 + 1 + 1 + 1 + 1 + 1 + 1 := by omega
@[go_sem] theorem lt_8_11 (n : Nat) : n + 1 + 1 + 1 + 1 + 1 + 1 + 1 + 1 < n + 1 + 1 + 1 + 1 + 1 + 1 + 1 + 1 + 1 + 1 + 1 := by omega
@[go_sem] theorem lt_8_12 (n : Nat) : n + 1 + 1 + 1 + 1 + 1 + 1 + 1 + 1 < n + 1 + 1 + 1 + 1 + 1 + 1 + 1 + 1 + 1 + 1 + 1 + 1 := by omega
@[go_sem] theorem lt_9_11 (n : Nat) : n + 1 + 1 + 1 + 1 + 1 + 1 + 1 + 1 + 1 < n + 1 + 1 + 1 + 1 + 1 + 1 + 1 + 1 + 1 + 1 + 1 := by omega
@[go_sem] theorem lt_9_12 (n : Nat) : n + 1 + 1 + 1 + 1 + 1 + 1 + 1 + 1 + 1 < n + 1 + 1 + 1 + 1 + 1 + 1 + 1 + 1 + 1 + 1 + 1 + 1 := by omega
@[go_sem] theorem lt_10_12 (n : Nat) : n + 1 + 1 + 1 + 1 + 1 + 1 + 1 + 1 + 1 + 1 < n + 1 + 1 + 1 + 1 + 1 + 1 + 1 + 1 + 1 + 1 + 1 + 1 := by omega
end Go.Proofs.Ythgoighpmnecbaa
namespace Go.Proofs.Ythgoighpmnecbaa
open Go.RowKit
set_option linter.unusedVariables false
section
variable {P : Program}
theorem bk_lt {w : World} {g : Nat} {o : Obj} (h : w.heap[g]? = some o) : g < w.heap.size := (Array.getElem?_eq_some_iff.1 h).1
theorem bk_cell {w : World} {g : Nat} {t : TypeId} {cs : Array Value} {fr : Nat × Nat} (h : w.heap[g]? = some (.cells cs t fr)) (i : Nat) : w.cell? ⟨g, i, none⟩ = cs[i]? := cell_of_row w g i cs t fr h
theorem bk_frozen {w : World} {g : Nat} {t : TypeId} {cs : Array Value} (h : w.heap[g]? = some (.cells cs t (0, 0))) (i : Nat) : w.frozen? ⟨g, i, none⟩ = false := by simp [World.frozen?, h]
theorem bk_set {w : World} {g : Nat} {t : TypeId} {cs : Array Value} (h : w.heap[g]? = some (.cells cs t (0, 0))) (i : Nat) (u : Value) : (w.setCell ⟨g, i, none⟩ u).heap[g]? = some (.cells (cs.setIfInBounds i u) t (0, 0)) := heap_setCell_same w g i cs t u h
theorem bk_far {w : World} {g : Nat} {o : Obj} (h : w.heap[g]? = some o) {p : Addr} (hp : g ≠ p.block) (u : Value) : (w.setCell p u).heap[g]? = some o := (Below.heap_setCell w p u g hp).trans h
theorem bk_alloc {w : World} {g : Nat} {o : Obj} (h : w.heap[g]? = some o) (o' : Obj) : (w.alloc o').heap[g]? = some o := (Below.heap_alloc w o' g (bk_lt h)).trans h
theorem bk_new (w : World) (o : Obj) : (w.alloc o).heap[w.heap.size]? = some o := heap_alloc_new w o
theorem bk_below {w w1 : World} {g : Nat} {o : Obj} (h : w.heap[g]? = some o) (hb : Below w.heap.size w w1) : w1.heap[g]? = some o := (hb.block g (bk_lt h)).trans h
theorem setRow_alloc (w : World) (cs vs : Array Value) (t : TypeId) : (w.alloc (.cells cs t)).setRow w.heap.size vs = w.alloc (.cells vs t) := by
  unfold World.setRow World.alloc
  congr 1
  apply Array.ext_getElem?
  intro i
  rw [Array.getElem?_modify]
  simp only [Array.getElem?_push]
  by_cases h : i = w.heap.size
  · subst h; simp
  · have : ¬ w.heap.size = i := fun e => h e.symm
    simp [h, this]
/-- an operation whose guard says yes -/
theorem wpList_wanted {ops : Array Oper} {rest : List Oper} {o : Oper} {a : Act} {w : World} {Q : Exit → Act → World → Prop} (hw : Region.wanted o (yielded ops a.tmps) = true)
    (h : ∀ K : Act → World → Prop, (∀ a w, wpList P ops Q rest a w → K a w) → o.wp P a w K Q) : wpList P ops Q (o :: rest) a w :=
  wpList_step fun K hK => by rw [if_pos hw]; exact h K hK
theorem wpList_load_row_w {ops : Array Oper} {rest : List Oper} {o : Oper} {a : Act} {w : World} {Q : Exit → Act → World → Prop} (ty : TypeId) (x : Operand) (ho : o.op = .load ty x) (hw : Region.wanted o (yielded ops a.tmps) = true)
    (g : Nat) (hx : a.eval x = .pointer (some ⟨g, 0, none⟩)) (t : TypeId) (cs : Array Value) (fr : Nat × Nat) (d : TypeDesc) (hg : w.heap[g]? = some (.cells cs t fr))
    (hu : P.underlying ty = some d) (hd : (match d with | .struct _ | .array _ _ => true | _ => false) = true) (hi : (P.info? ty).map (·.size) = some cs.size)
    (h : wpList P ops Q rest (a.put o.dst (.agg cs)) w) : wpList P ops Q (o :: rest) a w :=
  wpList_wanted hw fun _ hK => wp_load_row ty x ho g hx t cs fr d hg hu hd hi (hK _ _ h)
theorem wpList_build_w {ops : Array Oper} {rest : List Oper} {o : Oper} {a : Act} {w : World} {Q : Exit → Act → World → Prop} (t : TypeId) (parts : Array (Nat × Operand)) (ho : o.op = .build t parts) (hw : Region.wanted o (yielded ops a.tmps) = true)
    (cells : Array Value) (hf : P.built t (parts.map fun (i, x) => (i, a.eval x)).toList = some cells)
    (h : wpList P ops Q rest (a.put o.dst (.agg cells)) w) : wpList P ops Q (o :: rest) a w :=
  wpList_wanted hw fun _ hK => wp_build t parts ho (by rw [hf]; rfl) (by rw [hf]; exact hK _ _ h)
/-- a value built, its cells named -/
theorem wpList_build_to {ops : Array Oper} {rest : List Oper} {o : Oper} {a : Act} {w : World} {Q : Exit → Act → World → Prop} (hg : o.guard = none) (t : TypeId) (parts : Array (Nat × Operand)) (ho : o.op = .build t parts)
    (cells : Array Value) (hf : P.built t (parts.map fun (i, x) => (i, a.eval x)).toList = some cells)
    (h : wpList P ops Q rest (a.put o.dst (.agg cells)) w) : wpList P ops Q (o :: rest) a w :=
  wpList_build hg t parts ho (by rw [hf]; rfl) (by rw [hf]; exact h)
/-- a whole new block stored into -/
theorem wpList_store_new {ops : Array Oper} {rest : List Oper} {o : Oper} {a : Act} {w : World} {Q : Exit → Act → World → Prop} (hgd : o.guard = none) (ty : TypeId) (x y : Operand) (ho : o.op = .store ty x y)
    (cells old : Array Value) (t : TypeId) (hx : a.eval x = .pointer (some ⟨w.heap.size, 0, none⟩)) (hy : a.eval y = .agg cells) (hi : (P.info? ty).map (·.size) = some cells.size)
    (hold : old.size = cells.size) (h1 : cells.all (·.oneCell') = true)
    (h : wpList P ops Q rest (a.put o.dst undef) (w.alloc (.cells cells t))) : wpList P ops Q (o :: rest) a (w.alloc (.cells old t)) :=
  wpList_store_row hgd ty x y ho w.heap.size cells hx hy t old (bk_new w _) hi hold h1 (by rw [setRow_alloc]; exact h)
/-- a variable made and filled: 'l := v' of a struct or an array -/
theorem wpList_alloc_store {ops : Array Oper} {rest : List Oper} {o o2 : Oper} {a : Act} {w : World} {Q : Exit → Act → World → Prop} (hg1 : o.guard = none) (hg2 : o2.guard = none) (ty : TypeId) (ho : o.op = .alloc ty) (x y : Operand) (ho2 : o2.op = .store ty x y)
    (cells : Array Value) (hz : (((P.info? ty).bind (·.zero)).map fun z => z.cells.size) = some cells.size) (hi : (P.info? ty).map (·.size) = some cells.size)
    (hx : (a.put o.dst (.pointer (some ⟨w.heap.size, 0, none⟩))).eval x = .pointer (some ⟨w.heap.size, 0, none⟩)) (hy : (a.put o.dst (.pointer (some ⟨w.heap.size, 0, none⟩))).eval y = .agg cells) (h1 : cells.all (·.oneCell') = true)
    (h : wpList P ops Q rest ((a.put o.dst (.pointer (some ⟨w.heap.size, 0, none⟩))).put o2.dst undef) (w.alloc (.cells cells ty))) : wpList P ops Q (o :: o2 :: rest) a w := by
  cases hq : P.info? ty with
  | none => simp [hq] at hi
  | some i =>
    cases hzz : i.zero with
    | none => simp [hq, hzz] at hz
    | some z =>
      have hsz : z.cells.size = cells.size := by simpa [hq, hzz] using hz
      refine wpList_plain hg1 fun K hK => ?_
      have hr : (Instr.alloc ty true (.tuple #[])).run P w = .ok (.pointer (some ⟨w.heap.size, 0, none⟩)) (w.alloc (.cells z.cells ty)) := by
        simp [Instr.alloc, zeroValue, typeInfo, hq, hzz, newVar, newRow]
      unfold Oper.wp execOp
      simp only [ho, Sem.run_bind, hr, Result.andThen_ok, Sem.run_pure]
      exact hK _ _ (wpList_store_new hg2 ty x y ho2 cells z.cells ty hx hy hi hsz h1 h)
/-- a region that draws its order: reads and quiet calls ahead of a tail; the world behind the draw under a name -/
theorem still_tail {id : Nat} {l : List Oper} {a : Act} {w : World} {Q : Exit → Act → World → Prop} (n : Nat) (hm : P.follows .mixedOrders = true) (hc : Region.lexTailB .any l.toArray n = true)
    (h : ∀ W, W = w.drew → wpStill P l.toArray W (fun a' => wpList P l.toArray Q (l.drop n) a' W) (l.take n) a) : (Code.region id l.toArray true).wp P Q a w :=
  wp_region_still_tail n hm hc (h _ rfl)
/-- two results: a struct or an array in memory, and a number -/
theorem res_ct {fn : Func} {p u : Tmp} {ty : TypeId} (h : fn.results = #[.cell p ty, .tmp u]) (tmps : Array Value) (w : World) (g : Nat) (t : TypeId) (cs : Array Value) (fr : Nat × Nat) (d : TypeDesc)
    (hp : tmps.getD p undef = .pointer (some ⟨g, 0, none⟩)) (hg : w.heap[g]? = some (.cells cs t fr))
    (hu : P.underlying ty = some d) (hd : (match d with | .struct _ | .array _ _ => true | _ => false) = true) (hi : (P.info? ty).map (·.size) = some cs.size) :
    (results fn tmps).run P w = .ok (.tuple #[.agg cs, tmps.getD u undef]) w := by
  have hp' : tmps[p]?.getD undef = .pointer (some ⟨g, 0, none⟩) := by simpa using hp
  simp [results, h, hp', asAddr, run_loadVar_row w g t ty cs fr d hg hu hd hi]
theorem below_row {B g : Nat} {w0 w : World} (hb : Below B w0 w) (hBg : B ≤ g) (cs : Array Value) : Below B w0 (w.setRow g cs) :=
  hb.trans ⟨rfl, rfl, rfl, by simp [World.setRow], fun k hk => setRow_other w g k cs (by omega)⟩
/-- the world under a name, and what is known of it -/
theorem wp_abs {c : Code} {Q : Exit → Act → World → Prop} {a : Act} {w : World} (F : World → Prop) (hF : F w) (h : ∀ W, F W → c.wp P Q a W) : c.wp P Q a w := h w hF
theorem calls_abs {f : FuncId} {args : Array Value} {w : World} {R : Ending → World → Prop} (F : World → Prop) (hF : F w) (h : ∀ W, F W → Calls P f args W R) : Calls P f args w R := h w hF
end
end Go.Proofs.Ythgoighpmnecbaa
namespace Go.Proofs.Ythgoighpmnecbaa
open Go.RowKit
set_option linter.unusedVariables false
set_option linter.unusedSimpArgs false
/-- a row of numbers as it lies -/
def Sl (w : World) (q : IntKind) (p : Option Addr) (L : Nat) (X : Nat → Int) : Prop := L = 0 ∨ ∃ b o, p = some ⟨b, o, none⟩ ∧ ∀ i, i < L → w.cell? ⟨b, o + i, none⟩ = some (.int q (X i))
theorem Sl.below {w w1 : World} {q : IntKind} {p : Option Addr} {L : Nat} {X : Nat → Int} (h : Sl w q p L X) (hb : Below w.heap.size w w1) : Sl w1 q p L X := by
  rcases h with h | ⟨b, o, e, hc⟩
  · exact .inl h
  · exact .inr ⟨b, o, e, fun i hi => keepc hb (hc i hi)⟩
theorem grown_below {w w1 : World} (hb : Below w.heap.size w w1) (r : Option Nat) : w.grownBy w1 r := ⟨hb.os, hb.tape, hb.output, hb.size, fun k hk _ => hb.block k hk⟩
theorem own_below {w w1 : World} {B : Nat} {e : TypeId} {q : IntKind} {v : Value} {zs : List Int} (h : w.ownsInts B e q v zs) (hb : Below w.heap.size w w1) : w1.ownsInts B e q v zs :=
  h.kept (grown_below hb none) (by cases v.ownBlock <;> simp)
theorem own_apart {w : World} {B e e' : Nat} {q q' : IntKind} {v v' : Value} {zs zs' : List Int} (h : w.ownsInts B e q v zs) (h' : w.ownsInts B e' q' v' zs') (he : e ≠ e') : v.ownBlock = none ∨ v.ownBlock ≠ v'.ownBlock := by
  obtain ⟨⟨_, h⟩, _⟩ := h
  obtain ⟨⟨_, h'⟩, _⟩ := h'
  rcases h with ⟨rfl, _⟩ | ⟨g, cap, cur, rfl, _, hg, _⟩
  · left; rfl
  · right
    rcases h' with ⟨rfl, _⟩ | ⟨g', cap', cur', rfl, _, hg', _⟩
    · simp [Value.ownBlock]
    · simp only [Value.ownBlock, ne_eq, Option.some.injEq]
      rintro rfl
      rw [hg] at hg'
      simp only [Option.some.injEq, Obj.cells.injEq] at hg'
      exact he hg'.2.1
theorem below_grown {B : Nat} {a w w1 : World} {e : TypeId} {q : IntKind} {v : Value} {zs : List Int} (h : Below B a w) (ho : w.ownsInts B e q v zs) (hB : B ≤ w.heap.size) (hg : w.grownBy w1 v.ownBlock) : Below B a w1 :=
  ⟨hg.os.trans h.os, hg.tape.trans h.tape, hg.output.trans h.output, Nat.le_trans h.size hg.size, fun k hk => (hg.block k (Nat.lt_of_lt_of_le hk hB) (fun e => by have := (ho.1.lt k e.symm).1; omega)).trans (h.block k hk)⟩
/-- what it owns, read -/
theorem own_sl {w : World} {B : Nat} {e : TypeId} {q : IntKind} {v : Value} {zs : List Int} (h : w.ownsInts B e q v zs) : ∃ a c, v = .slice a zs.length c ∧ Sl w q a zs.length (fun i => zs.getD i 0) ∧ (∀ b o, a = some ⟨b, o, none⟩ → B ≤ b ∧ b < w.heap.size) := by
  obtain ⟨⟨_, h⟩, _⟩ := h
  rcases h with ⟨rfl, h0⟩ | ⟨g, cap, cur, rfl, hb, hg, hn, hm, hs, ht⟩
  · exact ⟨none, 0, by rw [h0], .inl h0, by simp⟩
  · refine ⟨some ⟨g, 0, none⟩, cap, rfl, .inr ⟨g, 0, rfl, fun i hi => ?_⟩, fun b o e => ?_⟩
    · rw [bk_cell hg (0 + i), Nat.zero_add]
      have h1 : (cur.toList.take (zs.length * 1))[i]? = (zs.map (Value.int q))[i]? := by rw [ht]
      rw [List.getElem?_take_of_lt (by omega), List.getElem?_map, List.getElem?_eq_getElem hi] at h1
      show cur[i]? = some (Value.int q (zs.getD i 0))
      rw [List.getD_eq_getElem?_getD, List.getElem?_eq_getElem hi]
      simpa using h1
    · simp only [Option.some.injEq, Addr.mk.injEq] at e
      rw [← e.1]
      exact ⟨hb, (Array.getElem?_eq_some_iff.1 hg).1⟩
/-- all that lay there lies as it lay, but for two blocks -/
structure Kept2 (r k : Nat) (w w' : World) : Prop where
  os : w'.os = w.os
  tape : w'.tape = w.tape
  output : w'.output = w.output
  size : w.heap.size ≤ w'.heap.size
  block : ∀ i, i < w.heap.size → i ≠ r → i ≠ k → w'.heap[i]? = w.heap[i]?
theorem Kept2.refl (r k : Nat) (w : World) : Kept2 r k w w := ⟨rfl, rfl, rfl, Nat.le_refl _, fun _ _ _ _ => rfl⟩
theorem Kept2.trans {r k : Nat} {a b c : World} (h : Kept2 r k a b) (j : Kept2 r k b c) : Kept2 r k a c :=
  ⟨j.os.trans h.os, j.tape.trans h.tape, j.output.trans h.output, Nat.le_trans h.size j.size, fun i hi h1 h2 => (j.block i (Nat.lt_of_lt_of_le hi h.size) h1 h2).trans (h.block i hi h1 h2)⟩
theorem Kept.two1 {r k : Nat} {w w' : World} (h : Kept r w w') : Kept2 r k w w' := ⟨h.os, h.tape, h.output, h.size, fun i hi h1 _ => h.block i hi h1⟩
theorem Kept.two2 {r k : Nat} {w w' : World} (h : Kept k w w') : Kept2 r k w w' := ⟨h.os, h.tape, h.output, h.size, fun i hi _ h2 => h.block i hi h2⟩
theorem Kept2.of_below {r k : Nat} {w w' : World} (h : Below w.heap.size w w') : Kept2 r k w w' := ⟨h.os, h.tape, h.output, h.size, fun i hi _ _ => h.block i hi⟩
theorem Kept2.below {r k B : Nat} {a w w' : World} (j : Kept2 r k w w') (h : Below B a w) (hr : B ≤ r) (hk : B ≤ k) (hB : B ≤ w.heap.size) : Below B a w' :=
  ⟨j.os.trans h.os, j.tape.trans h.tape, j.output.trans h.output, Nat.le_trans h.size j.size, fun i hi => (j.block i (Nat.lt_of_lt_of_le hi hB) (by omega) (by omega)).trans (h.block i hi)⟩
theorem Kept2.blk {r k b : Nat} {w w' : World} {o : Obj} (j : Kept2 r k w w') (h : w.heap[b]? = some o) (h1 : b ≠ r) (h2 : b ≠ k) : w'.heap[b]? = some o := (j.block b (Array.getElem?_eq_some_iff.1 h).1 h1 h2).trans h
theorem Kept2.cell {r k : Nat} {w w' : World} (j : Kept2 r k w w') {b o : Nat} {v : Value} (h : w.cell? ⟨b, o, none⟩ = some v) (h1 : b ≠ r) (h2 : b ≠ k) : w'.cell? ⟨b, o, none⟩ = some v := by
  have hlt := block_lt_of_cell h
  rw [← h]
  exact World.cell?_of_block (w := w) (w' := w') (j.block b hlt h1 h2)
theorem Kept.frozen {g : Nat} {w w' : World} (k : Kept g w w') {b o : Nat} (hlt : b < w.heap.size) (hb : b ≠ g) : w'.frozen? ⟨b, o, none⟩ = w.frozen? ⟨b, o, none⟩ := by
  have := k.block b hlt hb
  simp [World.frozen?, this]
theorem bdrew {B : Nat} {a W : World} (h : Below B a W) : Below B a W.drew := ⟨h.os, h.tape, h.output, h.size, h.block⟩
/-- a slice type of whole numbers -/
structure IntElem (P : Program) (t e : TypeId) (q : IntKind) (bytes : Nat) : Prop where
  ht : P.underlying t = some (.slice e)
  hi : (P.info? e).map (fun i => (i.zero, i.size, i.bytes)) = some (some (.int q 0), 1, bytes)
  hb : bytes ≤ 8
/-- 'v = append(v, n)' of a slice of the call's own -/
theorem app1 {P : Program} {ops : Array Oper} {rest : List Oper} {o : Oper} {a : Act} {Q : Exit → Act → World → Prop} {w : World} (hgd : o.guard = none) (s x : Operand) (t : TypeId)
    (ho : o.op = .call { callee := .builtin .append, args := #[s, x], argTypes := #[t, t] }) {base e bytes : Nat} {q : IntKind} (ie : IntElem P t e q bytes) (v : Value) (zs : List Int) (n : Int)
    (hs : a.eval s = v) (hown : w.ownsInts base e q v zs) (hx : a.eval x = .slice (some ⟨w.heap.size, 0, none⟩) 1 1) (hwf : (Lit.int q n).wf = true) (h63 : zs.length < 100000000) (hbase : base ≤ w.heap.size)
    (h : ∀ v' w', w'.ownsInts base e q v' (zs ++ [n]) → Below base w w' → w.grownBy w' v.ownBlock → wpList P ops Q rest (a.put o.dst v') w') : wpList P ops Q (o :: rest) a (w.alloc (.cells #[.int q n] e)) := by
  obtain ⟨i0, hi, hz0, hz1, hz2⟩ := info_parts ie.hi
  have hb := ie.hb
  refine wpList_append_own _ hgd s x t ho base e i0 (.int q 0) 1 bytes ie.ht hi hz0 hz1 hz2 rfl (by decide) v zs.length _ hs (hown.1.alloc _) ⟨w.heap.size, 0, none⟩ 1 1 [.int q n] hx rfl ?_ ?_ ?_ ?_ ?_ ?_
  · intro j u hj
    match j, hj with
    | 0, hj =>
      simp at hj
      subst hj
      simp [Addr.add]
  · intro u hu
    simp at hu
    subst hu
    rfl
  · simp [maxLen]; omega
  · have : (zs.length + 1) * bytes ≤ (zs.length + 1) * 8 := Nat.mul_le_mul_left _ hb
    omega
  · simp; omega
  · intro v' w' h1 h2 _
    have h3 : w.grownBy w' v.ownBlock := (World.grownBy_alloc w _ _).trans h2
    refine h v' w' (hown.appended h1 hwf) ?_ h3
    exact ⟨h3.os, h3.tape, h3.output, h3.size, fun k hk => h3.block k (Nat.lt_of_lt_of_le hk hbase) (fun e => by have := (hown.1.lt k e.symm).1; omega)⟩
/-- a row of one that was just made -/
theorem own_one {w : World} {base e : Nat} {q : IntKind} {n : Int} (hbase : base ≤ w.heap.size) (hwf : (Lit.int q n).wf = true) : (w.alloc (.cells #[.int q n] e)).ownsInts base e q (.slice (some ⟨w.heap.size, 0, none⟩) 1 1) [n] := by
  refine ⟨⟨rfl, .inr ⟨w.heap.size, 1, #[.int q n], rfl, hbase, bk_new w _, Nat.le_refl _, by simp [maxLen], rfl, rfl⟩⟩, fun z hz => ?_⟩
  simp at hz
  subst hz
  exact hwf
/-- 'v = append(v, xs...)' of a slice of the call's own -/
theorem appN {P : Program} {ops : Array Oper} {rest : List Oper} {o : Oper} {a : Act} {Q : Exit → Act → World → Prop} {w : World} (hgd : o.guard = none) (s x : Operand) (t : TypeId)
    (ho : o.op = .call { callee := .builtin .append, args := #[s, x], argTypes := #[t, t] }) {base e bytes : Nat} {q : IntKind} (ie : IntElem P t e q bytes) (v : Value) (zs xs : List Int)
    (hs : a.eval s = v) (hown : w.ownsInts base e q v zs) (p : Option Addr) (c : Nat) (hx : a.eval x = .slice p xs.length c) (hp : p = none → xs = [] ∧ c = 0) (hsrc : Sl w q p xs.length (fun i => xs.getD i 0)) (hwf : ∀ z ∈ xs, (Lit.int q z).wf = true)
    (h63 : zs.length + xs.length < 100000000) (hbase : base ≤ w.heap.size)
    (h : ∀ v' w', w'.ownsInts base e q v' (zs ++ xs) → Below base w w' → w.grownBy w' v.ownBlock → wpList P ops Q rest (a.put o.dst v') w') : wpList P ops Q (o :: rest) a w := by
  obtain ⟨i0, hi, hz0, hz1, hz2⟩ := info_parts ie.hi
  have hb := ie.hb
  cases p with
  | none =>
    obtain ⟨rfl, rfl⟩ := hp rfl
    refine wpList_append_own_none hgd s x t ho base e i0 1 ie.ht hi v zs.length _ hs hown.1 hx ?_
    exact h v w (by simpa using hown) (Below.refl _ _) ⟨rfl, rfl, rfl, Nat.le_refl _, fun _ _ _ => rfl⟩
  | some ad =>
    refine wpList_append_own _ hgd s x t ho base e i0 (.int q 0) 1 bytes ie.ht hi hz0 hz1 hz2 rfl (by decide) v zs.length _ hs hown.1 ad xs.length c (xs.map (Value.int q)) hx (by simp) ?_ ?_ ?_ ?_ hbase ?_
    · intro j u hj
      rcases hsrc with h0 | ⟨b, o', e1, hc⟩
      · have : xs = [] := List.length_eq_zero_iff.1 h0
        subst this
        simp at hj
      · simp only [Option.some.injEq] at e1
        subst e1
        have hjl : j < xs.length := by
          have := (List.getElem?_eq_some_iff.1 hj).1
          simpa using this
        have e2 : (⟨b, o', none⟩ : Addr).add j = ⟨b, o' + j, none⟩ := by
          unfold Addr.add
          by_cases h : j = 0
          · subst h; simp
          · simp [h]
        rw [e2, hc j hjl]
        rw [List.getElem?_map, List.getElem?_eq_getElem hjl] at hj
        simp only [Option.map_some, Option.some.injEq] at hj
        rw [← hj]
        simp [List.getD_eq_getElem?_getD, hjl]
    · intro u hu
      obtain ⟨z, _, rfl⟩ := List.mem_map.1 hu
      rfl
    · simp [maxLen]; omega
    · have : (zs.length + xs.length) * bytes ≤ (zs.length + xs.length) * 8 := Nat.mul_le_mul_left _ hb
      omega
    · intro v' w' h1 h2 _
      refine h v' w' ⟨by simpa using h1, fun z hz => ?_⟩ ?_ h2
      · rcases List.mem_append.1 hz with hz | hz
        · exact hown.2 z hz
        · exact hwf z hz
      · exact ⟨h2.os, h2.tape, h2.output, h2.size, fun k hk => h2.block k (Nat.lt_of_lt_of_le hk hbase) (fun e => by have := (hown.1.lt k e.symm).1; omega)⟩
end Go.Proofs.Ythgoighpmnecbaa
namespace Go.Proofs.Ythgoighpmnecbaa
open Go.RowKit
set_option linter.unusedVariables false
set_option linter.unusedSimpArgs false
/-- a row of values as it lies -/
def SlV (w : World) (p : Option Addr) (zs : List Value) : Prop := zs = [] ∨ ∃ b o, p = some ⟨b, o, none⟩ ∧ ∀ i u, zs[i]? = some u → w.cell? ⟨b, o + i, none⟩ = some u
theorem SlV.below {w w1 : World} {p : Option Addr} {zs : List Value} (h : SlV w p zs) (hb : Below w.heap.size w w1) : SlV w1 p zs := by
  rcases h with h | ⟨b, o, e, hc⟩
  · exact .inl h
  · exact .inr ⟨b, o, e, fun i u hi => keepc hb (hc i u hi)⟩
theorem addr_add (b o j : Nat) : (⟨b, o, none⟩ : Addr).add j = ⟨b, o + j, none⟩ := by
  unfold Addr.add
  by_cases h : j = 0
  · subst h; simp
  · simp [h]
/-- an element type of one cell -/
structure OneElem (P : Program) (t e : TypeId) (z : Value) (bytes : Nat) : Prop where
  ht : P.underlying t = some (.slice e)
  hi : (P.info? e).map (fun i => (i.zero, i.size, i.bytes)) = some (some z, 1, bytes)
  hz : z.cells.size = 1
  hb : bytes ≤ 24
theorem info_partsV {P : Program} {e : TypeId} {z : Value} {n b : Nat} (h : (P.info? e).map (fun i => (i.zero, i.size, i.bytes)) = some (some z, n, b)) : ∃ i, P.info? e = some i ∧ i.zero = some z ∧ i.size = n ∧ i.bytes = b := by
  cases hq : P.info? e with
  | none => simp [hq] at h
  | some i =>
    simp [hq] at h
    exact ⟨i, rfl, h.1, h.2.1, h.2.2⟩
/-- 'v = append(v, xs...)' of a row of the call's own -/
theorem appV {P : Program} {ops : Array Oper} {rest : List Oper} {o : Oper} {a : Act} {Q : Exit → Act → World → Prop} {w : World} (hgd : o.guard = none) (s x : Operand) (t : TypeId)
    (ho : o.op = .call { callee := .builtin .append, args := #[s, x], argTypes := #[t, t] }) {base e bytes : Nat} {z : Value} (ie : OneElem P t e z bytes) (v : Value) (zs xs : List Value)
    (hs : a.eval s = v) (hown : w.ownsRow base e 1 v zs.length zs) (p : Option Addr) (c : Nat) (hx : a.eval x = .slice p xs.length c) (hp : p = none → xs = [] ∧ c = 0) (hsrc : SlV w p xs) (h1 : ∀ u ∈ xs, u.oneCell' = true)
    (h63 : zs.length + xs.length < 100000000) (hbase : base ≤ w.heap.size)
    (h : ∀ v' w', w'.ownsRow base e 1 v' (zs ++ xs).length (zs ++ xs) → Below base w w' → w.grownBy w' v.ownBlock → wpList P ops Q rest (a.put o.dst v') w') : wpList P ops Q (o :: rest) a w := by
  obtain ⟨i0, hi, hz0, hz1, hz2⟩ := info_partsV ie.hi
  have hb := ie.hb
  cases p with
  | none =>
    obtain ⟨rfl, rfl⟩ := hp rfl
    refine wpList_append_own_none hgd s x t ho base e i0 1 ie.ht hi v zs.length _ hs hown hx ?_
    exact h v w (by simpa using hown) (Below.refl _ _) ⟨rfl, rfl, rfl, Nat.le_refl _, fun _ _ _ => rfl⟩
  | some ad =>
    refine wpList_append_own _ hgd s x t ho base e i0 z 1 bytes ie.ht hi hz0 hz1 hz2 ie.hz (by decide) v zs.length _ hs hown ad xs.length c xs hx (by simp) ?_ h1 ?_ ?_ hbase ?_
    · intro j u hj
      rcases hsrc with h0 | ⟨b, o', e1, hc⟩
      · subst h0
        simp at hj
      · simp only [Option.some.injEq] at e1
        subst e1
        rw [addr_add]
        exact hc j u hj
    · simp [maxLen]; omega
    · have : (zs.length + xs.length) * bytes ≤ (zs.length + xs.length) * 24 := Nat.mul_le_mul_left _ hb
      omega
    · intro v' w' g1 h2 _
      refine h v' w' (by simpa using g1) ?_ h2
      exact ⟨h2.os, h2.tape, h2.output, h2.size, fun k hk => h2.block k (Nat.lt_of_lt_of_le hk hbase) (fun e => by have := (hown.lt k e.symm).1; omega)⟩
/-- a row of none, and of one, just made -/
theorem ownV_none {w : World} {base e : Nat} (hbase : base ≤ w.heap.size) : (w.alloc (.cells #[] e)).ownsRow base e 1 (.slice (some ⟨w.heap.size, 0, none⟩) 0 0) 0 [] :=
  ⟨rfl, .inr ⟨w.heap.size, 0, #[], rfl, hbase, bk_new w _, Nat.le_refl _, by simp [maxLen], rfl, rfl⟩⟩
theorem ownV_one {w : World} {base e : Nat} {u : Value} (hbase : base ≤ w.heap.size) : (w.alloc (.cells #[u] e)).ownsRow base e 1 (.slice (some ⟨w.heap.size, 0, none⟩) 1 1) 1 [u] :=
  ⟨rfl, .inr ⟨w.heap.size, 1, #[u], rfl, hbase, bk_new w _, Nat.le_refl _, by simp [maxLen], rfl, rfl⟩⟩
/-- what it owns, read -/
theorem ownV_sl {w : World} {B : Nat} {e : TypeId} {v : Value} {zs : List Value} (h : w.ownsRow B e 1 v zs.length zs) : ∃ a c, v = .slice a zs.length c ∧ SlV w a zs ∧ (∀ b o, a = some ⟨b, o, none⟩ → B ≤ b ∧ b < w.heap.size) ∧ (a = none → zs = [] ∧ c = 0) ∧ zs.length ≤ c := by
  obtain ⟨_, h⟩ := h
  rcases h with ⟨rfl, h0⟩ | ⟨g, cap, cur, rfl, hb, hg, hn, hm, hs, ht⟩
  · exact ⟨none, 0, by rw [h0], .inl (List.length_eq_zero_iff.1 h0), by simp, fun _ => ⟨List.length_eq_zero_iff.1 h0, rfl⟩, by omega⟩
  · refine ⟨some ⟨g, 0, none⟩, cap, rfl, .inr ⟨g, 0, rfl, fun i u hi => ?_⟩, fun b o e => ?_, by simp, hn⟩
    · rw [bk_cell hg (0 + i), Nat.zero_add]
      have hil := (List.getElem?_eq_some_iff.1 hi).1
      rw [← ht, List.getElem?_take_of_lt (by omega)] at hi
      simpa using hi
    · simp only [Option.some.injEq, Addr.mk.injEq] at e
      rw [← e.1]
      exact ⟨hb, (Array.getElem?_eq_some_iff.1 hg).1⟩
theorem ownV_below {w w1 : World} {B : Nat} {e : TypeId} {v : Value} {n : Nat} {zs : List Value} (h : w.ownsRow B e 1 v n zs) (hb : Below w.heap.size w w1) : w1.ownsRow B e 1 v n zs := by
  obtain ⟨h0, h⟩ := h
  refine ⟨h0, ?_⟩
  rcases h with h | ⟨g, cap, cur, e1, hb1, hg, rest⟩
  · exact .inl h
  · exact .inr ⟨g, cap, cur, e1, hb1, bk_below hg hb, rest⟩
end Go.Proofs.Ythgoighpmnecbaa
namespace Go.Proofs.Ythgoighpmnecbaa
open Go.RowKit
set_option linter.unusedVariables false
set_option linter.unusedSimpArgs false
/-- elements of k cells, laid out flat -/
def flat (k : Nat) (F : Nat → Nat → Value) (n : Nat) : List Value := (List.range (n * k)).map fun j => F (j / k) (j % k)
theorem flat_length (k : Nat) (F : Nat → Nat → Value) (n : Nat) : (flat k F n).length = n * k := by simp [flat]
theorem flat_get {k : Nat} {F : Nat → Nat → Value} {n j : Nat} (h : j < n * k) : (flat k F n)[j]? = some (F (j / k) (j % k)) := by
  unfold flat
  rw [List.getElem?_map, List.getElem?_range h]
  rfl
theorem flat_at {k : Nat} {F : Nat → Nat → Value} {n i r : Nat} (hi : i < n) (hr : r < k) : (flat k F n)[i * k + r]? = some (F i r) := by
  have h1 : i * k + r < n * k := by
    have := Nat.mul_le_mul_right k (show i + 1 ≤ n from hi)
    rw [Nat.add_mul, Nat.one_mul] at this
    omega
  rw [flat_get h1, Nat.mul_comm i k, Nat.mul_add_div (by omega), Nat.mul_add_mod, Nat.div_eq_of_lt hr, Nat.mod_eq_of_lt hr, Nat.add_zero]
theorem flat_zero (k : Nat) (F : Nat → Nat → Value) : flat k F 0 = [] := by simp [flat]
theorem flat_succ {k : Nat} (hk : 0 < k) (F : Nat → Nat → Value) (n : Nat) : flat k F (n + 1) = flat k F n ++ (List.range k).map (F n) := by
  apply List.ext_getElem?
  intro j
  by_cases h1 : j < n * k
  · rw [List.getElem?_append_left (by rw [flat_length]; exact h1), flat_get h1, flat_get (by rw [Nat.add_mul]; omega)]
  · rw [List.getElem?_append_right (by rw [flat_length]; omega), flat_length]
    by_cases h2 : j < (n + 1) * k
    · rw [Nat.add_mul, Nat.one_mul] at h2
      obtain ⟨r, rfl⟩ : ∃ r, j = n * k + r := ⟨j - n * k, by omega⟩
      rw [flat_at (by omega) (by omega), show n * k + r - n * k = r by omega, List.getElem?_map, List.getElem?_range (by omega)]
      rfl
    · rw [List.getElem?_eq_none (by rw [flat_length]; omega), List.getElem?_eq_none (by simp; rw [Nat.add_mul, Nat.one_mul] at h2; omega)]
theorem flat_one {k : Nat} {F : Nat → Nat → Value} {n : Nat} (h : ∀ i r, r < k → (F i r).oneCell' = true) (hk : 0 < k) : ∀ u ∈ flat k F n, u.oneCell' = true := by
  intro u hu
  obtain ⟨j, _, rfl⟩ := List.mem_map.1 hu
  exact h _ _ (Nat.mod_lt _ hk)
/-- the row as it lies -/
def SlF (w : World) (k : Nat) (p : Option Addr) (n : Nat) (F : Nat → Nat → Value) : Prop := n = 0 ∨ ∃ b o, p = some ⟨b, o, none⟩ ∧ ∀ i, i < n → ∀ r, r < k → w.cell? ⟨b, o + i * k + r, none⟩ = some (F i r)
theorem SlF.below {w w1 : World} {k : Nat} {p : Option Addr} {n : Nat} {F : Nat → Nat → Value} (h : SlF w k p n F) (hb : Below w.heap.size w w1) : SlF w1 k p n F := by
  rcases h with h | ⟨b, o, e, hc⟩
  · exact .inl h
  · exact .inr ⟨b, o, e, fun i hi r hr => keepc hb (hc i hi r hr)⟩
/-- an element type of k cells -/
structure KElem (P : Program) (t e : TypeId) (z : Value) (k bytes : Nat) : Prop where
  ht : P.underlying t = some (.slice e)
  hi : (P.info? e).map (fun i => (i.zero, i.size, i.bytes)) = some (some z, k, bytes)
  hz : z.cells.size = k
  hk : 0 < k
  hb : bytes ≤ 64
/-- 'v = append(v, xs...)' of a row of the call's own -/
theorem appF {P : Program} {ops : Array Oper} {rest : List Oper} {o : Oper} {a : Act} {Q : Exit → Act → World → Prop} {w : World} (hgd : o.guard = none) (s x : Operand) (t : TypeId)
    (ho : o.op = .call { callee := .builtin .append, args := #[s, x], argTypes := #[t, t] }) {base e k bytes : Nat} {z : Value} (ie : KElem P t e z k bytes) (v : Value) (n : Nat) (zs : List Value)
    (hs : a.eval s = v) (hown : w.ownsRow base e k v n zs) (p : Option Addr) (m c : Nat) (G : Nat → Nat → Value) (hx : a.eval x = .slice p m c) (hp : p = none → m = 0 ∧ c = 0) (hsrc : SlF w k p m G) (h1 : ∀ i r, r < k → (G i r).oneCell' = true)
    (h63 : n + m < 100000000) (hbase : base ≤ w.heap.size)
    (h : ∀ v' w', w'.ownsRow base e k v' (n + m) (zs ++ flat k G m) → Below base w w' → w.grownBy w' v.ownBlock → wpList P ops Q rest (a.put o.dst v') w') : wpList P ops Q (o :: rest) a w := by
  obtain ⟨i0, hi, hz0, hz1, hz2⟩ := info_partsV ie.hi
  have hb := ie.hb
  cases p with
  | none =>
    obtain ⟨rfl, rfl⟩ := hp rfl
    refine wpList_append_own_none hgd s x t ho base e i0 k ie.ht hi v n _ hs hown hx ?_
    exact h v w (by rw [flat_zero, List.append_nil]; exact hown) (Below.refl _ _) ⟨rfl, rfl, rfl, Nat.le_refl _, fun _ _ _ => rfl⟩
  | some ad =>
    refine wpList_append_own _ hgd s x t ho base e i0 z k bytes ie.ht hi hz0 hz1 hz2 ie.hz ie.hk v n _ hs hown ad m c (flat k G m) hx (flat_length k G m) ?_ (flat_one h1 ie.hk) ?_ ?_ hbase ?_
    · intro j u hj
      have hjl : j < m * k := by
        have := (List.getElem?_eq_some_iff.1 hj).1
        rwa [flat_length] at this
      rcases hsrc with h0 | ⟨b, o', e1, hc⟩
      · subst h0
        simp at hjl
      · simp only [Option.some.injEq] at e1
        subst e1
        rw [flat_get hjl] at hj
        simp only [Option.some.injEq] at hj
        subst hj
        rw [addr_add]
        have hkk := ie.hk
        have := hc (j / k) ((Nat.div_lt_iff_lt_mul hkk).2 hjl) (j % k) (Nat.mod_lt _ hkk)
        rwa [Nat.add_assoc, Nat.mul_comm (j / k) k, Nat.div_add_mod] at this
    · simp [maxLen]; omega
    · have : (n + m) * bytes ≤ (n + m) * 64 := Nat.mul_le_mul_left _ hb
      omega
    · intro v' w' g1 h2 _
      refine h v' w' g1 ?_ h2
      exact ⟨h2.os, h2.tape, h2.output, h2.size, fun k hk => h2.block k (Nat.lt_of_lt_of_le hk hbase) (fun e => by have := (hown.lt k e.symm).1; omega)⟩
theorem ownF_none {w : World} {base e k : Nat} (hbase : base ≤ w.heap.size) : (w.alloc (.cells #[] e)).ownsRow base e k (.slice (some ⟨w.heap.size, 0, none⟩) 0 0) 0 [] :=
  ⟨by simp, .inr ⟨w.heap.size, 0, #[], rfl, hbase, bk_new w _, Nat.le_refl _, by simp [maxLen], by simp, by simp⟩⟩
/-- what it owns, read -/
theorem ownF_sl {w : World} {B : Nat} {e k : Nat} {v : Value} {n : Nat} {F : Nat → Nat → Value} (h : w.ownsRow B e k v n (flat k F n)) : ∃ a c, v = .slice a n c ∧ SlF w k a n F ∧ (∀ b o, a = some ⟨b, o, none⟩ → B ≤ b ∧ b < w.heap.size ∧ o = 0) ∧ (a = none → n = 0 ∧ c = 0) ∧ n ≤ c := by
  obtain ⟨_, h⟩ := h
  rcases h with ⟨rfl, h0⟩ | ⟨g, cap, cur, rfl, hb, hg, hn, hm, hs, ht⟩
  · exact ⟨none, 0, by rw [h0], .inl h0, by simp, fun _ => ⟨h0, rfl⟩, by omega⟩
  · refine ⟨some ⟨g, 0, none⟩, cap, rfl, .inr ⟨g, 0, rfl, fun i hi r hr => ?_⟩, fun b o e => ?_, by simp, hn⟩
    · have hfa := flat_at (F := F) hi hr
      have hlt : i * k + r < n * k := by
        have := (List.getElem?_eq_some_iff.1 hfa).1
        rwa [flat_length] at this
      rw [bk_cell hg (0 + i * k + r), Nat.zero_add]
      rw [← ht, List.getElem?_take_of_lt hlt] at hfa
      simpa using hfa
    · simp only [Option.some.injEq, Addr.mk.injEq, and_true] at e
      obtain ⟨rfl, rfl⟩ := e
      exact ⟨hb, (Array.getElem?_eq_some_iff.1 hg).1, rfl⟩
end Go.Proofs.Ythgoighpmnecbaa
namespace Go.Proofs.Ythgoighpmnecbaa
open Go.RowKit
set_option linter.unusedVariables false
set_option linter.unusedSimpArgs false
/-- what conf's functions panic with -/
def wrongE (n : Int) : PanicEntry := { v := .iface 73 (.agg #[.int .i64 n]), recovered := false }
theorem must_yes (n : Int) (w : World) :
    Calls Try.prog 42 #[.bool true, .int .i64 n] w fun e w' => e = .returned (.tuple #[]) ∧ w' = w := by
  go_enter Try.func42, Try.ntmps42
  go_wp2
  go_end0
  exact ⟨rfl, rfl⟩
theorem must_no (n : Int) (w : World) :
    Calls Try.prog 42 #[.bool false, .int .i64 n] w fun e w' => e = .panicked [wrongE n] ∧ w' = w := by
  go_enter Try.func42, Try.ntmps42
  go_wp2
  simp [bodyPost, wrongE]
theorem caught_panicking (p : Addr) (x n : Int) (older : List PanicEntry) (w : World) (hc : w.cell? p = some (.int .i64 x)) (hz : w.frozen? p = false) :
    CallsD Try.prog 58 #[.pointer (some p)] (.panicking (wrongE n :: older)) w fun e u' w' =>
      e = .returned (.tuple #[]) ∧ u' = .panicking ({ v := .iface 73 (.agg #[.int .i64 n]), recovered := true } :: older) ∧ w' = w.setCell p (.int .i64 n) := by
  refine callsD_of_wpS Try.func58 rfl fun c₀ cs hu => ?_
  apply wpS_seq
  apply wpS_region
  simp [wpOpsS, go_sem, recoverD, hu, Try.ntmps58, Exit.thenS, wrongE]
  refine wpS_of_wp ?_
  simp only [List.size_toArray, List.length_cons, List.length_nil, Nat.reduceAdd, Nat.reduceSub, Array.replicate_succ, Array.replicate_zero, List.push_toArray, List.append_toArray, List.nil_append, List.cons_append, List.setIfInBounds_toArray, List.set_cons_succ, List.set_cons_zero]
  have hta : ∀ w, (Instr.typeAssert (.iface 73 (.agg #[.int .i64 n])) 20 73 false).run Try.prog w = .ok (.agg #[.int .i64 n]) w := fun w => by kernel_rfl
  have hfi : ∀ w, (Instr.field 73 (.agg #[.int .i64 n]) 0).run Try.prog w = .ok (.int .i64 n) w := fun w => by kernel_rfl
  go_wp2
  simp [bodyPostS, results, Try.results58]
theorem caught_idle (p : Addr) (w : World) :
    CallsD Try.prog 58 #[.pointer (some p)] .returning w fun e u' w' => e = .returned (.tuple #[]) ∧ u' = .returning ∧ w' = w := by
  refine callsD_of_wpS Try.func58 rfl fun c₀ cs hu => ?_
  apply wpS_seq
  apply wpS_region
  simp [wpOpsS, go_sem, recoverD, hu, Try.ntmps58, Exit.thenS]
  refine wpS_of_wp ?_
  simp only [List.size_toArray, List.length_cons, List.length_nil, Nat.reduceAdd, Nat.reduceSub, Array.replicate_succ, Array.replicate_zero, List.push_toArray, List.append_toArray, List.nil_append, List.cons_append, List.setIfInBounds_toArray, List.set_cons_succ, List.set_cons_zero]
  go_wp2
  cases c₀
  simp_all [bodyPostS, results, Try.results58]
/-- is a number from one to another one? -/
def inB (n a b : Int) : Bool := decide (a ≤ n) && decide (n ≤ b)
theorem in_any (n a b : Int) (w : World) :
    Calls Try.prog 59 #[.int .i64 n, .int .i64 a, .int .i64 b] w fun e w' => e = .returned (.bool (inB n a b)) ∧ w' = w := by
  have hd : inB n a b = (decide (a ≤ n) && decide (n ≤ b)) := rfl
  by_cases h1 : a ≤ n
  · by_cases h2 : n ≤ b
    all_goals
      have hr : inB n a b = decide (n ≤ b) := by simp [inB, h1]
      rw [hr]
      clear hd hr
      go_enter Try.func59, Try.ntmps59
      go_wp2
      go_ret
      exact ⟨by simp [*], rfl⟩
  · have hr : inB n a b = false := by simp [inB, h1]
    rw [hr]
    clear hd hr
    go_enter Try.func59, Try.ntmps59
    go_wp2
    go_ret
    exact ⟨by simp [*], rfl⟩
end Go.Proofs.Ythgoighpmnecbaa
namespace Go.Proofs.Ythgoighpmnecbaa
open Go.RowKit
set_option linter.unusedVariables false
set_option linter.unusedSimpArgs false
/-- a row of pairs, of fours, as it lies -/
def Sl2 (w : World) (p : Option Addr) (n : Nat) (X Y : Nat → Int) : Prop := n = 0 ∨ ∃ b o, p = some ⟨b, o, none⟩ ∧ ∀ i, i < n → w.cell? ⟨b, o + i * 2, none⟩ = some (.int .i64 (X i)) ∧ w.cell? ⟨b, o + i * 2 + 1, none⟩ = some (.int .i64 (Y i))
def Sl4 (w : World) (p : Option Addr) (n : Nat) (X Y Z U : Nat → Int) : Prop := n = 0 ∨ ∃ b o, p = some ⟨b, o, none⟩ ∧ ∀ i, i < n → w.cell? ⟨b, o + i * 4, none⟩ = some (.int .i64 (X i)) ∧ w.cell? ⟨b, o + i * 4 + 1, none⟩ = some (.int .i64 (Y i)) ∧ w.cell? ⟨b, o + i * 4 + 2, none⟩ = some (.int .i64 (Z i)) ∧ w.cell? ⟨b, o + i * 4 + 3, none⟩ = some (.int .i64 (U i))
theorem Sl2.below {w w' : World} {p : Option Addr} {n : Nat} {X Y : Nat → Int} (h : Sl2 w p n X Y) (hb : Below w.heap.size w w') : Sl2 w' p n X Y := by
  rcases h with h | ⟨b, o, e, h⟩
  · exact .inl h
  · exact .inr ⟨b, o, e, fun i hi => ⟨keepc hb (h i hi).1, keepc hb (h i hi).2⟩⟩
theorem Sl4.below {w w' : World} {p : Option Addr} {n : Nat} {X Y Z U : Nat → Int} (h : Sl4 w p n X Y Z U) (hb : Below w.heap.size w w') : Sl4 w' p n X Y Z U := by
  rcases h with h | ⟨b, o, e, h⟩
  · exact .inl h
  · exact .inr ⟨b, o, e, fun i hi => ⟨keepc hb (h i hi).1, keepc hb (h i hi).2.1, keepc hb (h i hi).2.2.1, keepc hb (h i hi).2.2.2⟩⟩
/-- a configuration -/
structure Cfg where
  nP : Nat
  nW : Nat
  nC : Nat
  q : Nat → Int
  s : Nat → Int
  wp : Nat → Int
  wt : Nat → Int
  cf : Nat → Int
  ct : Nat → Int
  cc : Nat → Int
  cw : Nat → Int
/-- where its rows lie -/
structure Lay where
  pP : Option Addr
  cP : Nat
  pW : Option Addr
  cW : Nat
  pC : Option Addr
  cC : Nat
def cfgV (C : Cfg) (l : Lay) : Array Value := #[.slice l.pP C.nP l.cP, .slice l.pW C.nW l.cW, .slice l.pC C.nC l.cC]
structure IsC (w : World) (C : Cfg) (l : Lay) : Prop where
  P : Sl2 w l.pP C.nP C.q C.s
  W : Sl2 w l.pW C.nW C.wp C.wt
  C : Sl4 w l.pC C.nC C.cf C.ct C.cc C.cw
theorem IsC.below {w w' : World} {C : Cfg} {l : Lay} (h : IsC w C l) (hb : Below w.heap.size w w') : IsC w' C l := ⟨h.P.below hb, h.W.below hb, h.C.below hb⟩
def okN (C : Cfg) : Bool := inB C.nP 1 8 && inB C.nW 1 32 && decide (C.nC ≤ 16)
def okP (C : Cfg) (i : Nat) : Bool := inB (C.q i) 4 256 && inB (C.s i) 1 8
def okW (C : Cfg) (i : Nat) : Bool := inB (C.wp i) 0 ((C.nP : Int) - 1) && inB (C.wt i) 1 255
def okC (C : Cfg) (i : Nat) : Bool := inB (C.cf i) 0 ((C.nP : Int) - 1) && inB (C.ct i) 0 ((C.nP : Int) - 1) && (C.cf i != C.ct i) && inB (C.cc i) 1 8 && inB (C.cw i) 1 8
/-- has a partition a window among the first k? -/
def seenB (C : Cfg) (k i : Nat) : Bool := (List.range k).any fun j => C.wp j == (i : Int)
def NumOk (C : Cfg) : Prop := okN C = true ∧ (∀ i, i < C.nP → okP C i = true) ∧ (∀ i, i < C.nW → okW C i = true) ∧ (∀ i, i < C.nP → seenB C C.nW i = true) ∧ ∀ i, i < C.nC → okC C i = true
open Classical in
/-- what numbers answers -/
noncomputable def numE (C : Cfg) : Int := if NumOk C then 0 else 2
theorem numE_ok {C : Cfg} (h : NumOk C) : numE C = 0 := if_pos h
theorem numE_bad {C : Cfg} (h : ¬ NumOk C) : numE C = 2 := if_neg h
/-- eight marks -/
def sc (f : Nat → Bool) : Array Value := #[.bool (f 0), .bool (f 1), .bool (f 2), .bool (f 3), .bool (f 4), .bool (f 5), .bool (f 6), .bool (f 7)]
theorem sc_at (f : Nat → Bool) (i : Nat) (h : i < 8) : (sc f)[i]? = some (.bool (f i)) := by
  match i, h with
  | 0, _ => rfl
  | 1, _ => rfl
  | 2, _ => rfl
  | 3, _ => rfl
  | 4, _ => rfl
  | 5, _ => rfl
  | 6, _ => rfl
  | 7, _ => rfl
theorem sc_set (f : Nat → Bool) (i : Nat) (h : i < 8) : (sc f).setIfInBounds i (.bool true) = sc fun j => j == i || f j := by
  match i, h with
  | 0, _ => rfl
  | 1, _ => rfl
  | 2, _ => rfl
  | 3, _ => rfl
  | 4, _ => rfl
  | 5, _ => rfl
  | 6, _ => rfl
  | 7, _ => rfl
theorem seen_step (C : Cfg) (k p : Nat) (h : C.wp k = p) : (fun j : Nat => j == p || seenB C k j) = seenB C (k + 1) := by
  funext j
  unfold seenB
  rw [List.range_succ, List.any_append]
  simp only [List.any_cons, List.any_nil, Bool.or_false, h]
  rw [Bool.or_comm]
  congr 1
  by_cases e : j = p
  · subst e; simp
  · have : ¬ (p : Int) = j := by omega
    rw [beq_eq_false_iff_ne.2 e, beq_eq_false_iff_ne.2 this]
/-- a row of marks lacks one -/
def Lacks (f : Nat → Bool) (n : Nat) (w : World) (e : Ending) (w' : World) : Prop := ∃ k : Nat, k < n ∧ f k = false ∧ e = .returned (.int .i64 k) ∧ w' = w
theorem index_lacks (b : Nat) (f : Nat → Bool) (n : Nat) (w : World) (h : ∀ i, i < n → w.cell? ⟨b, i, none⟩ = some (.bool (f i))) (hn : n ≤ 8) (hx : ∃ k, k < n ∧ f k = false) :
    Calls Try.prog 66 #[.slice (some ⟨b, 0, none⟩) n 8, .bool false] w (Lacks f n w) := by
  have H := Lib.hid h
  have HX := Lib.hid hx
  clear h hx
  go_enter Try.func66, Try.ntmps66
  go_wp2
  go_loop [8] (fun i => ∃ k : Nat, k ≤ n ∧ i = .int .i64 k ∧ Hid (∀ j, j < k → f j = true)) (fun i => n - (intOf i).toNat)
  case atStart => exact ⟨0, by omega, rfl, Lib.hid fun j hj => by omega⟩
  case round =>
    obtain ⟨k, hk, rfl, HF⟩ := hrel
    by_cases hkn : k < n
    · have hkn' : (k : Int) < n := by omega
      have c1 := H.out k hkn
      cases hf : f k with
      | false =>
        rw [hf] at c1
        have HFK := Lib.hid hf
        clear hf
        go_wp2
        go_ret
        exact ⟨k, hkn, HFK.out, rfl, rfl⟩
      | true =>
        rw [hf] at c1
        have HFK := Lib.hid hf
        clear hf
        go_wp2
        refine ⟨⟨k + 1, by omega, by go_num, Lib.hid fun j hj => ?_⟩, by simp [intOf]; omega⟩
        by_cases e : j = k
        · rw [e]; exact HFK.out
        · exact HF.out j (by omega)
    · exfalso
      obtain ⟨j, hj, hjf⟩ := HX.out
      rw [HF.out j (by omega)] at hjf
      cases hjf
theorem index_all (b : Nat) (f : Nat → Bool) (n : Nat) (w : World) (h : ∀ i, i < n → w.cell? ⟨b, i, none⟩ = some (.bool (f i))) (hn : n ≤ 8) (hx : ∀ k, k < n → f k = true) :
    Calls Try.prog 66 #[.slice (some ⟨b, 0, none⟩) n 8, .bool false] w fun e w' => e = .returned (.int .i64 (-1)) ∧ w' = w := by
  have H := Lib.hid h
  have HX := Lib.hid hx
  clear h hx
  go_enter Try.func66, Try.ntmps66
  go_wp2
  go_loop [8] (fun i => ∃ k : Nat, k ≤ n ∧ i = .int .i64 k) (fun i => n - (intOf i).toNat)
  case atStart => exact ⟨0, by omega, rfl⟩
  case round =>
    obtain ⟨k, hk, rfl⟩ := hrel
    by_cases hkn : k < n
    · have hkn' : (k : Int) < n := by omega
      have c1 := H.out k hkn
      rw [HX.out k hkn] at c1
      go_wp2
      refine ⟨⟨k + 1, by omega, by go_num⟩, by simp [intOf]; omega⟩
    · have hkn' : ¬ (k : Int) < n := by omega
      go_wp2
      go_ret
      exact ⟨rfl, rfl⟩
theorem contains_lacks (b : Nat) (f : Nat → Bool) (n : Nat) (w : World) (h : ∀ i, i < n → w.cell? ⟨b, i, none⟩ = some (.bool (f i))) (hn : n ≤ 8) (hx : ∃ k, k < n ∧ f k = false) :
    Calls Try.prog 60 #[.slice (some ⟨b, 0, none⟩) n 8, .bool false] w fun e w' => e = .returned (.bool true) ∧ w' = w := by
  have HK := Lib.hid (index_lacks b f n w h hn hx)
  clear h hx
  go_enter Try.func60, Try.ntmps60
  go_wp2_with fail
  refine HK.out.mono ?_; rintro e w1 ⟨k, _, _, rfl, rfl⟩
  have h0 : (0 : Int) ≤ (k : Int) := by omega
  go_wp2
  go_ret
  exact ⟨rfl, rfl⟩
theorem contains_all (b : Nat) (f : Nat → Bool) (n : Nat) (w : World) (h : ∀ i, i < n → w.cell? ⟨b, i, none⟩ = some (.bool (f i))) (hn : n ≤ 8) (hx : ∀ k, k < n → f k = true) :
    Calls Try.prog 60 #[.slice (some ⟨b, 0, none⟩) n 8, .bool false] w fun e w' => e = .returned (.bool false) ∧ w' = w := by
  have HK := Lib.hid (index_all b f n w h hn hx)
  clear h hx
  go_enter Try.func60, Try.ntmps60
  go_wp2_with fail
  refine HK.out.mono ?_; rintro e w1 ⟨rfl, rfl⟩
  go_wp2
  go_ret
  exact ⟨rfl, rfl⟩
end Go.Proofs.Ythgoighpmnecbaa
