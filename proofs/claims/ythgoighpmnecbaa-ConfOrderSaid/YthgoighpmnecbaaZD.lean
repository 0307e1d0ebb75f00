/- Helper text of this seat (ZD): contracts of functions of the given program and of its references, and the laws' plain parts, each told by its theorem. Conditions: as each theorem names them. -/
import Derived.Test.YthgoighpmnecbaaZC
import Derived.Test.YthgoighpmnecbaaZA
import Derived.Test.YthgoighpmnecbaaZE
import Derived.Test.YthgoighpmnecbaaZB
import Derived.Deep.RegionHeld3
import Derived.Deep.CutRange
import Derived.Laws.EntriesVeiled
import Derived.Test.YthgoighpmnecbaaPTextx1
import Derived.Test.YthgoighpmnecbaaPNumx1
import Derived.Deep.CutBlock
import Derived.Deep.DeepCutAuto
namespace Go.Proofs.Ythgoighpmnecbaa
open Go.RowKit
set_option linter.unusedVariables false
set_option linter.unusedSimpArgs false
/-- a reader in memory, in a state; its place in a variable; the function literal that reads a number, in another one -/
def RdS (w : World) (g : Nat) (s : St) : Prop := IsR w g s.t s.f
structure GV (w : World) (g rc nc : Nat) : Prop where
  r : w.cell? ⟨rc, 0, none⟩ = some (.pointer (some ⟨g, 0, none⟩))
  n : w.cell? ⟨nc, 0, none⟩ = some (.func (.func 44) #[] #[.pointer (some ⟨rc, 0, none⟩)])
  hr : rc ≠ g
  hn : nc ≠ g
theorem GV.kept {w w' : World} {g rc nc : Nat} (h : GV w g rc nc) (k : Kept g w w') : GV w' g rc nc := ⟨k.cell h.r h.hr, k.cell h.n h.hn, h.hr, h.hn⟩
theorem GV.below {w w' : World} {g rc nc : Nat} (h : GV w g rc nc) (hb : Below w.heap.size w w') : GV w' g rc nc := h.kept (.of_below hb)
theorem Kept.then_new {g : Nat} {w w' : World} (k : Kept g w w') {b : Nat} (hb : w.heap.size ≤ b) (o : Nat) (v : Value) : Kept g w (w'.setCell ⟨b, o, none⟩ v) :=
  ⟨k.os, k.tape, k.output, by simpa using k.size, fun j hj hg => (Below.heap_setCell w' ⟨b, o, none⟩ v j (by show j ≠ b; omega)).trans (k.block j hj hg)⟩
theorem Kept.allocd {g : Nat} {w w' : World} (k : Kept g w w') (o : Obj) : Kept g w (w'.alloc o) := k.then_below ((Below.refl _ _).alloc (Nat.le_refl _) _)
theorem RdS.allocd {g : Nat} {w : World} {s : St} (h : RdS w g s) (o : Obj) : RdS (w.alloc o) g s := bk_alloc h o
theorem bk_realloc {w : World} {z : Obj} {b : Nat} {x : Obj} (h : (w.alloc z).heap[b]? = some x) (hz : z ≠ x) (o : Obj) : (w.alloc o).heap[b]? = some x := by
  have hlt := bk_lt h
  have hb : b ≠ w.heap.size := by
    rintro rfl
    rw [bk_new] at h
    exact hz (Option.some.inj h)
  have hb2 : b < w.heap.size := by simp [World.size_alloc] at hlt; omega
  rw [Below.heap_alloc w o b hb2]
  rwa [Below.heap_alloc w z b hb2] at h
theorem Kept.realloc {g : Nat} {w w' : World} {z x : Obj} (k : Kept g w (w'.alloc z)) (h : (w'.alloc z).heap[w.heap.size]? = some x) (hz : z ≠ x) (o : Obj) : Kept g w (w'.alloc o) := by
  have hlt := bk_lt h
  have hb : w.heap.size ≠ w'.heap.size := by
    intro e
    rw [e, bk_new] at h
    exact hz (Option.some.inj h)
  have hb2 : w.heap.size < w'.heap.size := by simp [World.size_alloc] at hlt; omega
  refine ⟨k.os, k.tape, k.output, by simp; omega, fun j hj hg => ?_⟩
  have := k.block j hj hg
  rw [Below.heap_alloc w' _ j (by omega)] at this ⊢
  exact this
def zs3 : Obj := .cells #[.int .i64 0, .int .i64 0, .int .i64 0] 84 (0, 0)
theorem zs3_at {w : World} {b : Nat} (h : w.heap[b]? = some zs3) : w.cell? ⟨b, 0, none⟩ = some (.int .i64 0) ∧ w.cell? ⟨b, 1, none⟩ = some (.int .i64 0) ∧ w.cell? ⟨b, 2, none⟩ = some (.int .i64 0) ∧ w.frozen? ⟨b, 0, none⟩ = false ∧ w.frozen? ⟨b, 1, none⟩ = false ∧ w.frozen? ⟨b, 2, none⟩ = false :=
  ⟨(bk_cell h 0).trans rfl, (bk_cell h 1).trans rfl, (bk_cell h 2).trans rfl, bk_frozen h 0, bk_frozen h 1, bk_frozen h 2⟩
theorem arr_old {g b : Nat} {w X w' : World} (ha : X.heap[b]? = some (.cells #[.int .i64 0, .int .i64 0, .int .i64 0] 84 (0, 0))) (hle : w.heap.size < b) (hg : g < w.heap.size) (hk : Kept g X w') :
    w'.heap[b]? = some (.cells #[.int .i64 0, .int .i64 0, .int .i64 0] 84 (0, 0)) ∧ w.heap.size < b ∧ w'.cell? ⟨b, 0, none⟩ = some (.int .i64 0) ∧ w'.cell? ⟨b, 1, none⟩ = some (.int .i64 0) ∧ w'.cell? ⟨b, 2, none⟩ = some (.int .i64 0) ∧ w'.frozen? ⟨b, 0, none⟩ = false ∧ w'.frozen? ⟨b, 1, none⟩ = false ∧ w'.frozen? ⟨b, 2, none⟩ = false := by
  have h := Kept.blk hk ha (by omega)
  exact ⟨h, hle, zs3_at h⟩
theorem arr_new {g : Nat} {w X w' : World} {x : Array Value} (h2 : (X.alloc (.cells #[.int .i64 0, .int .i64 0, .int .i64 0] 84)).heap[w.heap.size]? = some (.cells x 46 (0, 0))) (hg : g < w.heap.size) (hk : Kept g (X.alloc (.cells #[.int .i64 0, .int .i64 0, .int .i64 0] 84)) w') :
    w'.heap[X.heap.size]? = some (.cells #[.int .i64 0, .int .i64 0, .int .i64 0] 84 (0, 0)) ∧ w.heap.size < X.heap.size ∧ w'.cell? ⟨X.heap.size, 0, none⟩ = some (.int .i64 0) ∧ w'.cell? ⟨X.heap.size, 1, none⟩ = some (.int .i64 0) ∧ w'.cell? ⟨X.heap.size, 2, none⟩ = some (.int .i64 0) ∧ w'.frozen? ⟨X.heap.size, 0, none⟩ = false ∧ w'.frozen? ⟨X.heap.size, 1, none⟩ = false ∧ w'.frozen? ⟨X.heap.size, 2, none⟩ = false := by
  have hb2 : w.heap.size < X.heap.size := by
    have hlt := bk_lt h2
    have hb : w.heap.size ≠ X.heap.size := by
      intro e
      rw [e, bk_new] at h2
      simp at h2
    simp [World.size_alloc] at hlt; omega
  exact arr_old (bk_new X _) hb2 hg hk
theorem arr_lt {w X : World} {x z : Array Value} (h2 : (X.alloc (.cells z 84)).heap[w.heap.size]? = some (.cells x 46 (0, 0))) : w.heap.size < X.heap.size := by
  have hlt := bk_lt h2
  have hb : w.heap.size ≠ X.heap.size := by
    intro e
    rw [e, bk_new] at h2
    simp at h2
  simp [World.size_alloc] at hlt; omega
theorem far_ne {g n b : Nat} (hg : g < n) (hb : n < b) : g ≠ b := by omega
theorem set3 {w : World} {b : Nat} (ha : w.heap[b]? = some (.cells #[.int .i64 0, .int .i64 0, .int .i64 0] 84 (0, 0))) (x y z : Value) : (((w.setCell ⟨b, 0, none⟩ x).setCell ⟨b, 1, none⟩ y).setCell ⟨b, 2, none⟩ z).heap[b]? = some (.cells #[x, y, z] 84 (0, 0)) :=
  bk_set (bk_set (bk_set ha 0 x) 1 y) 2 z
theorem RdS.far {w : World} {g b : Nat} {s : St} (h : RdS w g s) (hb : g ≠ b) (i : Nat) (v : Value) : RdS (w.setCell ⟨b, i, none⟩ v) g s := bk_far h hb v
theorem cell_far {w : World} {b c i : Nat} {u : Value} (h : w.cell? ⟨b, i, none⟩ = some u) (hb : b ≠ c) (j : Nat) (v : Value) : (w.setCell ⟨c, j, none⟩ v).cell? ⟨b, i, none⟩ = some u :=
  (World.cell?_of_block (w := w) (w' := w.setCell ⟨c, j, none⟩ v) (Below.heap_setCell w ⟨c, j, none⟩ v b hb)).trans h
theorem Kept.new4 {g : Nat} {w w' : World} (k : Kept g w w') (x y z u : Value) : Kept g w ((((w'.setCell ⟨w.heap.size, 0, none⟩ x).setCell ⟨w.heap.size, 1, none⟩ y).setCell ⟨w.heap.size, 2, none⟩ z).setCell ⟨w.heap.size, 3, none⟩ u) :=
  (((k.then_new (Nat.le_refl _) _ _).then_new (Nat.le_refl _) _ _).then_new (Nat.le_refl _) _ _).then_new (Nat.le_refl _) _ _
theorem cell_far4 {w : World} {b c i : Nat} {a : Value} (h : w.cell? ⟨b, i, none⟩ = some a) (hb : b ≠ c) (x y z u : Value) : ((((w.setCell ⟨c, 0, none⟩ x).setCell ⟨c, 1, none⟩ y).setCell ⟨c, 2, none⟩ z).setCell ⟨c, 3, none⟩ u).cell? ⟨b, i, none⟩ = some a :=
  cell_far (cell_far (cell_far (cell_far h hb _ _) hb _ _) hb _ _) hb _ _
theorem set4 {w : World} {b : Nat} (ha : w.heap[b]? = some (.cells #[.int .i64 0, .int .i64 0, .int .i64 0, .int .i64 0] 46 (0, 0))) (x y z u : Value) : ((((w.setCell ⟨b, 0, none⟩ x).setCell ⟨b, 1, none⟩ y).setCell ⟨b, 2, none⟩ z).setCell ⟨b, 3, none⟩ u).heap[b]? = some (.cells #[x, y, z, u] 46 (0, 0)) :=
  bk_set (bk_set (bk_set (bk_set ha 0 x) 1 y) 2 z) 3 u
theorem arr_newd {g : Nat} {w X w' : World} {x : Array Value} (h2 : (X.alloc (.cells #[.int .i64 0, .int .i64 0, .int .i64 0] 84)).drew.heap[w.heap.size]? = some (.cells x 46 (0, 0))) (hg : g < w.heap.size) (hk : Kept g (X.alloc (.cells #[.int .i64 0, .int .i64 0, .int .i64 0] 84)).drew w') :
    w'.heap[X.heap.size]? = some (.cells #[.int .i64 0, .int .i64 0, .int .i64 0] 84 (0, 0)) ∧ w.heap.size < X.heap.size ∧ w'.cell? ⟨X.heap.size, 0, none⟩ = some (.int .i64 0) ∧ w'.cell? ⟨X.heap.size, 1, none⟩ = some (.int .i64 0) ∧ w'.cell? ⟨X.heap.size, 2, none⟩ = some (.int .i64 0) ∧ w'.frozen? ⟨X.heap.size, 0, none⟩ = false ∧ w'.frozen? ⟨X.heap.size, 1, none⟩ = false ∧ w'.frozen? ⟨X.heap.size, 2, none⟩ = false :=
  arr_new (X := X) h2 hg ⟨hk.os, hk.tape, hk.output, hk.size, hk.block⟩
theorem bk_drew {w : World} {b : Nat} {x : Obj} (h : w.heap[b]? = some x) : w.drew.heap[b]? = some x := h
theorem RdS.drewd {g : Nat} {w : World} {s : St} (h : RdS w g s) : RdS w.drew g s := h
/-- one result: a struct in memory -/
theorem res_c {P : Program} {fn : Func} {p : Tmp} {ty : TypeId} (h : fn.results = #[.cell p ty]) (tmps : Array Value) (w : World) (g : Nat) (t : TypeId) (cs : Array Value) (fr : Nat × Nat) (d : TypeDesc)
    (hp : tmps.getD p undef = .pointer (some ⟨g, 0, none⟩)) (hg : w.heap[g]? = some (.cells cs t fr))
    (hu : P.underlying ty = some d) (hd : (match d with | .struct _ | .array _ _ => true | _ => false) = true) (hi : (P.info? ty).map (·.size) = some cs.size) :
    (results fn tmps).run P w = .ok (.agg cs) w := by
  have hp' : tmps[p]?.getD undef = .pointer (some ⟨g, 0, none⟩) := by simpa using hp
  simp [results, h, hp', asAddr, run_loadVar_row w g t ty cs fr d hg hu hd hi]
theorem gnum_any (g rc : Nat) (s : St) (n : Int) (w : World) (h : RdS w g s) (hs : s.t.size ≤ 140737488351232) (hr : w.cell? ⟨rc, 0, none⟩ = some (.pointer (some ⟨g, 0, none⟩))) :
    Calls Try.prog 44 #[.int .i64 n, .pointer (some ⟨rc, 0, none⟩)] w fun e w' => e = .returned (.int .i64 (nv s n)) ∧ RdS w' g (nx s n) ∧ Kept g w w' := by
  have HN := Lib.hid (num_any g s.t s.f n w h hs)
  have hb := nv_bd s n
  have hw : IntKind.i64.wrap (nv s n) = nv s n := by rw [IntKind.wrap_i64]; omega
  have e1 : nV s.t s.f n = nv s n := rfl
  rw [e1] at HN
  clear h e1
  generalize nv s n = x at *
  go_enter Try.func44, Try.ntmps44
  go_wp2_with fail
  refine HN.out.mono ?_; rintro e w1 ⟨rfl, h1, k1⟩
  have H1 := Lib.hid h1
  have K1 := Lib.hid k1
  clear h1 k1 HN
  go_wp2
  go_ret
  exact ⟨by simp [hw], H1.out, K1.out⟩
theorem gone2_PartConf (g rc nc : Nat) (s : St) (w : World) (h : RdS w g s) (hs : s.t.size ≤ 140737488351232) (hv : GV w g rc nc) (hg : g < w.heap.size) :
    Calls Try.prog 47 #[.pointer (some ⟨nc, 0, none⟩)] w fun e w' => e = .returned (.agg #[.int .i64 (nv s 2), .int .i64 (nv (nx s 2) 1)]) ∧ RdS w' g (nx2 s 2 1) ∧ Kept g w w' := by
  have HN := Lib.hid fun (s : St) (n : Int) (W : World) (h : RdS W g s) (hs : s.t.size ≤ 140737488351232) (hr : W.cell? ⟨rc, 0, none⟩ = some (.pointer (some ⟨g, 0, none⟩))) => gnum_any g rc s n W h hs hr
  have HR := Lib.hid h
  have HV := Lib.hid hv
  have c0 := hv.n
  have l0 := block_lt_of_cell hv.n
  have l1 := block_lt_of_cell hv.r
  clear h hv
  have hlt : w.heap.size ≠ g := by omega
  have hlt2 : w.heap.size ≤ w.heap.size := Nat.le_refl _
  go_enter Try.func47, Try.ntmps47
  go_wp2_with fail
  refine (HN.out s 2 _ (by exact bk_alloc HR.out _) hs (by exact keepc (by go_grown) HV.out.r)).mono ?_; rintro e w1 ⟨rfl, h1, k1⟩
  have HR1 := Lib.hid h1
  have K1 := Lib.hid k1
  have HB1 := Lib.hid ((Kept.of_below (g := g) ((Below.refl _ w).alloc (Nat.le_refl _) _)).trans k1)
  have c1 := HV.out.kept HB1.out
  have c2 := c1.n
  have HD1 := Lib.hid (k1.blk (bk_new w _) hlt)
  have z1 : w.heap.size < w1.heap.size := by have := k1.size; simp at this; omega
  have hs1 := nx_le s 2
  have l2 := Nat.lt_of_lt_of_le l0 HB1.out.size
  clear h1 k1 c0 K1
  have HC1 := Lib.hid c1
  clear c1
  go_wp2_with fail
  refine (HN.out (nx s 2) 1 _ HR1.out (by omega) HC1.out.r).mono ?_; rintro e w2 ⟨rfl, h2, k2⟩
  have HR2 := Lib.hid h2
  have HB2 := Lib.hid (HB1.out.trans k2)
  have HD2 := Lib.hid (k2.blk HD1.out hlt)
  have z2 : w.heap.size < w2.heap.size := Nat.lt_of_lt_of_le z1 k2.size
  have d0 : w2.cell? ⟨w.heap.size, 0, none⟩ = some (.int .i64 0) := (bk_cell HD2.out 0).trans rfl
  have d1 : w2.cell? ⟨w.heap.size, 1, none⟩ = some (.int .i64 0) := (bk_cell HD2.out 1).trans rfl
  have f0 := bk_frozen HD2.out 0
  have f1 := bk_frozen HD2.out 1
  clear h2 k2 c2
  go_wp2
  (try simp only [Exit.inBlock, Exit.then])
  refine bodyPost_ret (res_c (ty := 41) rfl _ _ w.heap.size _ _ _ _ (by rfl) (bk_set (bk_set HD2.out 0 _) 1 _) Try.underlying41 rfl (by kernel_rfl)) rfl ?_
  exact ⟨rfl, bk_far (bk_far HR2.out (by exact fun e => hlt e.symm) _) (by exact fun e => hlt e.symm) _, (HB2.out.then_new hlt2 _ _).then_new hlt2 _ _⟩
theorem gone2_Window (g rc nc : Nat) (s : St) (w : World) (h : RdS w g s) (hs : s.t.size ≤ 140737488351232) (hv : GV w g rc nc) (hg : g < w.heap.size) :
    Calls Try.prog 49 #[.pointer (some ⟨nc, 0, none⟩)] w fun e w' => e = .returned (.agg #[.int .i64 (nv s 1), .int .i64 (nv (nx s 1) 1)]) ∧ RdS w' g (nx2 s 1 1) ∧ Kept g w w' := by
  have HN := Lib.hid fun (s : St) (n : Int) (W : World) (h : RdS W g s) (hs : s.t.size ≤ 140737488351232) (hr : W.cell? ⟨rc, 0, none⟩ = some (.pointer (some ⟨g, 0, none⟩))) => gnum_any g rc s n W h hs hr
  have HR := Lib.hid h
  have HV := Lib.hid hv
  have c0 := hv.n
  have l0 := block_lt_of_cell hv.n
  have l1 := block_lt_of_cell hv.r
  clear h hv
  have hlt : w.heap.size ≠ g := by omega
  have hlt2 : w.heap.size ≤ w.heap.size := Nat.le_refl _
  go_enter Try.func49, Try.ntmps49
  go_wp2_with fail
  refine (HN.out s 1 _ (by exact bk_alloc HR.out _) hs (by exact keepc (by go_grown) HV.out.r)).mono ?_; rintro e w1 ⟨rfl, h1, k1⟩
  have HR1 := Lib.hid h1
  have K1 := Lib.hid k1
  have HB1 := Lib.hid ((Kept.of_below (g := g) ((Below.refl _ w).alloc (Nat.le_refl _) _)).trans k1)
  have c1 := HV.out.kept HB1.out
  have c2 := c1.n
  have HD1 := Lib.hid (k1.blk (bk_new w _) hlt)
  have z1 : w.heap.size < w1.heap.size := by have := k1.size; simp at this; omega
  have hs1 := nx_le s 1
  have l2 := Nat.lt_of_lt_of_le l0 HB1.out.size
  clear h1 k1 c0 K1
  have HC1 := Lib.hid c1
  clear c1
  go_wp2_with fail
  refine (HN.out (nx s 1) 1 _ HR1.out (by omega) HC1.out.r).mono ?_; rintro e w2 ⟨rfl, h2, k2⟩
  have HR2 := Lib.hid h2
  have HB2 := Lib.hid (HB1.out.trans k2)
  have HD2 := Lib.hid (k2.blk HD1.out hlt)
  have z2 : w.heap.size < w2.heap.size := Nat.lt_of_lt_of_le z1 k2.size
  have d0 : w2.cell? ⟨w.heap.size, 0, none⟩ = some (.int .i64 0) := (bk_cell HD2.out 0).trans rfl
  have d1 : w2.cell? ⟨w.heap.size, 1, none⟩ = some (.int .i64 0) := (bk_cell HD2.out 1).trans rfl
  have f0 := bk_frozen HD2.out 0
  have f1 := bk_frozen HD2.out 1
  clear h2 k2 c2
  go_wp2
  (try simp only [Exit.inBlock, Exit.then])
  refine bodyPost_ret (res_c (ty := 44) rfl _ _ w.heap.size _ _ _ _ (by rfl) (bk_set (bk_set HD2.out 0 _) 1 _) Try.underlying44 rfl (by kernel_rfl)) rfl ?_
  exact ⟨rfl, bk_far (bk_far HR2.out (by exact fun e => hlt e.symm) _) (by exact fun e => hlt e.symm) _, (HB2.out.then_new hlt2 _ _).then_new hlt2 _ _⟩

set_option maxHeartbeats 4000000 in
theorem gone4 (g rc nc : Nat) (s : St) (w : World) (h : RdS w g s) (hs : s.t.size ≤ 140737488351232) (hv : GV w g rc nc) (hg : g < w.heap.size) :
    Calls Try.prog 51 #[.pointer (some ⟨nc, 0, none⟩)] w fun e w' => e = .returned (.agg #[.int .i64 (nv s 1), .int .i64 (nv (nx s 1) 1), .int .i64 (nv (nx (nx s 1) 1) 1), .int .i64 (nv (nx (nx (nx s 1) 1) 1) 1)]) ∧ RdS w' g (nx4 s) ∧ Kept g w w' := by
  have HN := Lib.hid fun (s : St) (W : World) (h : RdS W g s) (hs : s.t.size ≤ 140737488351232) (hr : W.cell? ⟨rc, 0, none⟩ = some (.pointer (some ⟨g, 0, none⟩))) => gnum_any g rc s 1 W h hs hr
  have HR := Lib.hid h
  have HV := Lib.hid hv
  have l0 := block_lt_of_cell hv.n
  have l1 := block_lt_of_cell hv.r
  have hlt : w.heap.size ≠ g := by omega
  have z1 := nx_le s 1
  have z2 := nx_le (nx s 1) 1
  have z3 := nx_le (nx (nx s 1) 1) 1
  clear h hv
  go_enter Try.func51, Try.ntmps51
  go_wp2_with fail
  have hr0 : RdS (w.alloc (.cells #[.int .i64 0, .int .i64 0, .int .i64 0, .int .i64 0] 46)) g s := bk_alloc HR.out _
  have hk0 : Kept g w (w.alloc (.cells #[.int .i64 0, .int .i64 0, .int .i64 0, .int .i64 0] 46)) := .of_below ((Below.refl _ w).alloc (Nat.le_refl _) _)
  have hd0 : (w.alloc (.cells #[.int .i64 0, .int .i64 0, .int .i64 0, .int .i64 0] 46)).heap[w.heap.size]? = some (.cells #[.int .i64 0, .int .i64 0, .int .i64 0, .int .i64 0] 46 (0, 0)) := bk_new w _
  have hv0 := HV.out.kept hk0
  refine wp_abs (fun W => RdS W g s ∧ Kept g w W ∧ W.heap[w.heap.size]? = some (.cells #[.int .i64 0, .int .i64 0, .int .i64 0, .int .i64 0] 46 (0, 0)) ∧ W.cell? ⟨nc, 0, none⟩ = some (.func (.func 44) #[] #[.pointer (some ⟨rc, 0, none⟩)])) ?_ ?_
  · exact ⟨hr0, hk0, hd0, hv0.n⟩
  clear hr0 hk0 hd0 hv0
  rintro W ⟨hr0', hk0', hd0', hn0'⟩
  have hr0 : RdS W.drew g s := hr0'
  have hk0 : Kept g w W.drew := hk0'.drew
  have hd0 : W.drew.heap[w.heap.size]? = some (.cells #[.int .i64 0, .int .i64 0, .int .i64 0, .int .i64 0] 46 (0, 0)) := hd0'
  have hn0 : W.drew.cell? ⟨nc, 0, none⟩ = some (.func (.func 44) #[] #[.pointer (some ⟨rc, 0, none⟩)]) := hn0'
  have hrw : ∀ W' : World, Kept g w W' → W'.cell? ⟨rc, 0, none⟩ = some (.pointer (some ⟨g, 0, none⟩)) := fun W' k => (HV.out.kept k).r
  have hrn : ∀ W' : World, Kept g w W' → W'.cell? ⟨nc, 0, none⟩ = some (.func (.func 44) #[] #[.pointer (some ⟨rc, 0, none⟩)]) := fun W' k => (HV.out.kept k).n
  have HRW := Lib.hid hrw
  have HRN := Lib.hid hrn
  clear hrw hrn
  go_cut [2] from 3 to 9 (fun av wx => ∃ b, av = .pointer (some ⟨b, 0, none⟩) ∧ w.heap.size < b ∧ wx.heap[b]? = some (.cells #[.int .i64 (nv s 1), .int .i64 (nv (nx s 1) 1), .int .i64 (nv (nx (nx s 1) 1) 1)] 84 (0, 0)) ∧ RdS wx g (nx (nx (nx s 1) 1) 1) ∧ Kept g w wx ∧ wx.heap[w.heap.size]? = some (.cells #[.int .i64 0, .int .i64 0, .int .i64 0, .int .i64 0] 46 (0, 0)))
  case first =>
    go_region_held3 (fun W' => W'.cell? ⟨nc, 0, none⟩ = some (.func (.func 44) #[] #[.pointer (some ⟨rc, 0, none⟩)]) ∧ W'.heap[w.heap.size]? = some (.cells #[.int .i64 0, .int .i64 0, .int .i64 0, .int .i64 0] 46 (0, 0)) ∧ Kept g w W')
      (first | ((try go_split_ands); (repeat' apply And.intro) <;> with_reducible first | assumption | exact HRN.out _ (by first | assumption | exact Kept.trans (by assumption) hk | exact Kept.allocd (by assumption) _ | exact Kept.drew (Kept.allocd (by assumption) _) | exact Kept.realloc (by assumption) (by assumption) (by simp) _ | exact Kept.then_new (Kept.then_new (Kept.then_new (by assumption) (Nat.le_of_lt hle) _ _) (Nat.le_of_lt hle) _ _) (Nat.le_of_lt hle) _ _) | exact Kept.blk hk (by assumption) hlt | exact bk_alloc (by assumption) _ | exact bk_drew (bk_alloc (by assumption) _) | exact bk_realloc (by assumption) (by simp) _ | exact bk_far (bk_far (bk_far (by assumption) (Nat.ne_of_lt hle) _) (Nat.ne_of_lt hle) _) (Nat.ne_of_lt hle) _ | exact Kept.drew (by assumption) | exact (by first | assumption | exact Kept.trans (by assumption) hk | exact Kept.allocd (by assumption) _ | exact Kept.drew (Kept.allocd (by assumption) _) | exact Kept.realloc (by assumption) (by assumption) (by simp) _ | exact Kept.then_new (Kept.then_new (Kept.then_new (by assumption) (Nat.le_of_lt hle) _ _) (Nat.le_of_lt hle) _ _) (Nat.le_of_lt hle) _ _) | trace_state))
      (first | (go_at_call 44; (try go_split_ands); refine (HN.out _ _ (by first | assumption | exact RdS.allocd (by assumption) _ | exact RdS.drewd (RdS.allocd (by assumption) _)) (by omega) (by exact HRW.out _ (by first | assumption | (simp only [*]; done)))).mono ?_; rintro e w3 ⟨rfl, hrd, hk⟩; (first | (have q := arr_new (by assumption) hg hk; obtain ⟨ha, hle, e0, e1, e2, f0, f1, f2⟩ := q) | (have q := arr_newd (by assumption) hg hk; obtain ⟨ha, hle, e0, e1, e2, f0, f1, f2⟩ := q) | (have q := arr_old ha hle hg hk; obtain ⟨ha, hle, e0, e1, e2, f0, f1, f2⟩ := q) | skip)))
    all_goals
      (try go_split_ands)
      go_wp2_with fail
      go_meet
    all_goals with_reducible first
      | exact ⟨_, rfl, arr_lt (by assumption), bk_new _ _, RdS.allocd hrd _, by assumption, by assumption⟩
      | exact ⟨_, rfl, hle, set3 ha _ _ _, RdS.far (RdS.far (RdS.far hrd (far_ne hg hle) _ _) (far_ne hg hle) _ _) (far_ne hg hle) _ _, by assumption, by assumption⟩
  case rest =>
    obtain ⟨b, rfl, hle, ha', hr', hk', hd'⟩ := hcut
    have e0 : wc.drew.cell? ⟨b, 0, none⟩ = some (.int .i64 (nv s 1)) := (bk_cell ha' 0).trans rfl
    have e1 : wc.drew.cell? ⟨b, 1, none⟩ = some (.int .i64 (nv (nx s 1) 1)) := (bk_cell ha' 1).trans rfl
    have e2 : wc.drew.cell? ⟨b, 2, none⟩ = some (.int .i64 (nv (nx (nx s 1) 1) 1)) := (bk_cell ha' 2).trans rfl
    have hr : RdS wc.drew g (nx (nx (nx s 1) 1) 1) := hr'
    have hn : wc.drew.cell? ⟨nc, 0, none⟩ = some (.func (.func 44) #[] #[.pointer (some ⟨rc, 0, none⟩)]) := HRN.out _ hk'.drew
    have hk0 : Kept g w wc.drew := hk'.drew
    have hd : wc.drew.heap[w.heap.size]? = some (.cells #[.int .i64 0, .int .i64 0, .int .i64 0, .int .i64 0] 46 (0, 0)) := hd'
    have hbg : b ≠ g := by omega
    have hbw : b ≠ w.heap.size := by omega
    clear ha' hr' hk' hd'
    go_wp2_with fail
    go_region_held3 (fun W' => W'.cell? ⟨b, 0, none⟩ = some (.int .i64 (nv s 1)) ∧ W'.cell? ⟨b, 1, none⟩ = some (.int .i64 (nv (nx s 1) 1)) ∧ W'.cell? ⟨b, 2, none⟩ = some (.int .i64 (nv (nx (nx s 1) 1) 1)) ∧ W'.cell? ⟨nc, 0, none⟩ = some (.func (.func 44) #[] #[.pointer (some ⟨rc, 0, none⟩)]) ∧ Kept g w W')
      (first | ((try go_split_ands); (repeat' apply And.intro) <;> with_reducible first | assumption | exact HRN.out _ (Kept.trans hk0 hk) | exact Kept.trans hk0 hk | exact Kept.cell hk (by assumption) hbg | exact cell_far4 (by assumption) hbw _ _ _ _ | exact HRN.out _ (Kept.new4 (by assumption) _ _ _ _) | exact Kept.new4 (by assumption) _ _ _ _ | trace_state))
      (first | (go_at_call 44; refine (HN.out _ _ hr (by omega) (by exact HRW.out _ hk0)).mono ?_; rintro e w3 ⟨rfl, hrd, hk⟩; have hd3 := Kept.blk hk hd hlt; have d0 : w3.cell? ⟨w.heap.size, 0, none⟩ = some (.int .i64 0) := (bk_cell hd3 0).trans rfl; have d1 : w3.cell? ⟨w.heap.size, 1, none⟩ = some (.int .i64 0) := (bk_cell hd3 1).trans rfl; have d2 : w3.cell? ⟨w.heap.size, 2, none⟩ = some (.int .i64 0) := (bk_cell hd3 2).trans rfl; have d3 : w3.cell? ⟨w.heap.size, 3, none⟩ = some (.int .i64 0) := (bk_cell hd3 3).trans rfl; have f0 := bk_frozen hd3 0; have f1 := bk_frozen hd3 1; have f2 := bk_frozen hd3 2; have f3 := bk_frozen hd3 3))
    try go_split_ands
    go_wp2_with fail
    (try simp only [Exit.inBlock, Exit.then])
    refine bodyPost_ret (res_c (ty := 46) rfl _ _ w.heap.size _ _ _ _ (by rfl) (set4 hd3 _ _ _ _) Try.underlying46 rfl (by kernel_rfl)) rfl ?_
    exact ⟨rfl, RdS.far (RdS.far (RdS.far (RdS.far hrd (fun e => hlt e.symm) _ _) (fun e => hlt e.symm) _ _) (fun e => hlt e.symm) _ _) (fun e => hlt e.symm) _ _, by assumption⟩
end Go.Proofs.Ythgoighpmnecbaa
namespace Go.Proofs.Ythgoighpmnecbaa
open Go.RowKit
set_option linter.unusedVariables false
set_option linter.unusedSimpArgs false
/-- elements as cells -/
def val2 (l : List (Int × Int)) : List Value := l.flatMap fun x => [.int .i64 x.1, .int .i64 x.2]
def val4 (l : List (Int × Int × Int × Int)) : List Value := l.flatMap fun x => [.int .i64 x.1, .int .i64 x.2.1, .int .i64 x.2.2.1, .int .i64 x.2.2.2]
theorem val2_snoc (l : List (Int × Int)) (x : Int × Int) : val2 (l ++ [x]) = val2 l ++ [.int .i64 x.1, .int .i64 x.2] := by simp [val2]
theorem val4_snoc (l : List (Int × Int × Int × Int)) (x : Int × Int × Int × Int) : val4 (l ++ [x]) = val4 l ++ [.int .i64 x.1, .int .i64 x.2.1, .int .i64 x.2.2.1, .int .i64 x.2.2.2] := by simp [val4]
def one2 (x y : Int) : Nat → Nat → Value := fun _ r => if r = 0 then .int .i64 x else .int .i64 y
def one4 (x y z u : Int) : Nat → Nat → Value := fun _ r => if r = 0 then .int .i64 x else if r = 1 then .int .i64 y else if r = 2 then .int .i64 z else .int .i64 u
theorem flat_one2 (x y : Int) : flat 2 (one2 x y) 1 = [.int .i64 x, .int .i64 y] := rfl
theorem flat_one4 (x y z u : Int) : flat 4 (one4 x y z u) 1 = [.int .i64 x, .int .i64 y, .int .i64 z, .int .i64 u] := rfl
theorem keP : KElem Try.prog 22 41 (.agg #[.int .i64 0, .int .i64 0]) 2 16 := ⟨Try.underlying22, by kernel_rfl, by rfl, by decide, by decide⟩
theorem keW : KElem Try.prog 23 44 (.agg #[.int .i64 0, .int .i64 0]) 2 16 := ⟨Try.underlying23, by kernel_rfl, by rfl, by decide, by decide⟩
theorem keC : KElem Try.prog 24 46 (.agg #[.int .i64 0, .int .i64 0, .int .i64 0, .int .i64 0]) 4 32 := ⟨Try.underlying24, by kernel_rfl, by rfl, by decide, by decide⟩
theorem own_kept {w w' : World} {B g e k n : Nat} {v : Value} {zs : List Value} (h : w.ownsRow B e k v n zs) (hk : Kept g w w') (hg : g < B) : w'.ownsRow B e k v n zs := by
  obtain ⟨h0, h⟩ := h
  refine ⟨h0, ?_⟩
  rcases h with h | ⟨b, cap, cur, e1, hb1, hg1, rest⟩
  · exact .inl h
  · exact .inr ⟨b, cap, cur, e1, hb1, hk.blk hg1 (by omega), rest⟩
theorem own_nil {w : World} {B e k : Nat} : w.ownsRow B e k (.slice none 0 0) 0 [] := ⟨by simp, .inl ⟨rfl, rfl⟩⟩
theorem Kept.appd {g B : Nat} {a w w' : World} (k : Kept g a w) (hb : Below B w w') (hB : a.heap.size ≤ B) : Kept g a w' :=
  ⟨hb.os.trans k.os, hb.tape.trans k.tape, hb.output.trans k.output, Nat.le_trans k.size hb.size, fun j hj hg => (hb.block j (Nat.lt_of_lt_of_le hj hB)).trans (k.block j hj hg)⟩
theorem RdS.app {g B : Nat} {w w' : World} {s : St} (h : RdS w g s) (hb : Below B w w') (hg : g < B) : RdS w' g s := (hb.block g hg).trans h
set_option maxHeartbeats 4000000 in
theorem all_PartConf (g rc nc : Nat) (s : St) (w : World) (h : RdS w g s) (hs : s.t.size ≤ 140737488351232) (hv : GV w g rc nc) (hg : g < w.heap.size) :
    Calls Try.prog 46 #[.pointer (some ⟨g, 0, none⟩), .func (.func 47) #[] #[.pointer (some ⟨nc, 0, none⟩)]] w fun e w' => ∃ v,
      e = .returned v ∧ w'.ownsRow w.heap.size 41 2 v (el2 2 1 (nv s 1).toNat (nx s 1)).length (val2 (el2 2 1 (nv s 1).toNat (nx s 1))) ∧ RdS w' g (st2 2 1 (nv s 1).toNat (nx s 1)) ∧ Kept g w w' := by
  have HO := Lib.hid fun (s : St) (W : World) (h : RdS W g s) (hs : s.t.size ≤ 140737488351232) (hv : GV W g rc nc) (hg : g < W.heap.size) => gone2_PartConf g rc nc s W h hs hv hg
  have HF := Lib.hid fun (s : St) (W : World) (h : RdS W g s) => fine_any g s.t s.f W h
  have HN := Lib.hid (num_any g s.t s.f 1 w h hs)
  have HV := Lib.hid hv
  have hnb := nv1_bd s
  have hx1 := nx_le s 1
  change Hid (Calls _ _ _ _ fun e w' => e = .returned (.int .u32 (nv s 1)) ∧ RdS w' g (nx s 1) ∧ Kept g w w') at HN
  clear h hv
  obtain ⟨n, hn⟩ : ∃ n : Nat, nv s 1 = n := ⟨(nv s 1).toNat, by omega⟩
  rw [hn] at HN hnb
  simp only [hn, Int.toNat_natCast]
  clear hn
  generalize nx s 1 = s1 at *
  have HE := Lib.hid (el2_len 2 1 n s1)
  go_enter Try.func46, Try.ntmps46
  go_wp2_with fail
  refine HN.out.mono ?_; rintro e w1 ⟨rfl, h1, k1⟩
  have H1 := Lib.hid h1
  have K1 := Lib.hid k1
  clear h1 k1
  go_wp2_with fail
  go_loopw [5, 6] (fun lv nv' W' => ∃ (k : Nat) (acc : List (Int × Int)) (t : St), nv' = .int .u32 k ∧ k ≤ n ∧ acc ++ el2 2 1 k t = el2 2 1 n s1 ∧ st2 2 1 k t = st2 2 1 n s1 ∧ t.t.size ≤ s.t.size ∧ RdS W' g t ∧ W'.ownsRow w.heap.size 41 2 lv acc.length (val2 acc) ∧ Kept g w W') (fun _ nv' _ => (intOf nv').toNat)
  case atStart => exact ⟨n, [], s1, rfl, Nat.le_refl _, rfl, rfl, by omega, H1.out, own_nil, K1.out⟩
  case round =>
    obtain ⟨k, acc, t, rfl, hkn, hacc, hst, hts, hr, ho, hk⟩ := hrel
    have HA := Lib.hid hacc
    have HS := Lib.hid hst
    have HR := Lib.hid hr
    have HW := Lib.hid ho
    have HK := Lib.hid hk
    have HV1 := Lib.hid (HV.out.kept hk)
    have hgw : g < wr.heap.size := Nat.lt_of_lt_of_le hg hk.size
    have hwr : w.heap.size ≤ wr.heap.size := hk.size
    clear hacc hst hr ho hk
    by_cases h0 : k = 0
    · subst h0
      go_wp2
      go_ret
      have e1 : acc = el2 2 1 n s1 := by simpa [el2] using HA.out
      have e2 : t = st2 2 1 n s1 := by simpa [st2] using HS.out
      exact ⟨_, rfl, by rw [← e1]; exact HW.out, by rw [← e2]; exact HR.out, HK.out⟩
    · have hk0 : (0 : Int) < k := by omega
      cases hf : t.f with
      | false =>
        have hff := HF.out t wr HR.out
        rw [hf] at hff
        have HFF := Lib.hid hff
        have e1 : acc = el2 2 1 n s1 := by
          have := HA.out
          obtain ⟨j, rfl⟩ := Nat.exists_eq_succ_of_ne_zero h0
          simpa [el2, hf] using this
        have e2 : t = st2 2 1 n s1 := by
          have := HS.out
          obtain ⟨j, rfl⟩ := Nat.exists_eq_succ_of_ne_zero h0
          simpa [st2, hf] using this
        have E1 := Lib.hid e1
        have E2 := Lib.hid e2
        clear hff hf e1 e2
        go_wp2_with fail
        refine HFF.out.mono ?_; rintro e w2 ⟨rfl, rfl⟩
        go_wp2
        go_ret
        exact ⟨_, rfl, by rw [← E1.out]; exact HW.out, by rw [← E2.out]; exact HR.out, HK.out⟩
      | true =>
        have hff := HF.out t wr HR.out
        rw [hf] at hff
        have HFF := Lib.hid hff
        obtain ⟨j, rfl⟩ := Nat.exists_eq_succ_of_ne_zero h0
        have e1 : (acc ++ [(nv t 2, nv (nx t 2) 1)]) ++ el2 2 1 j (nx2 t 2 1) = el2 2 1 n s1 := by
          have := HA.out
          simpa [el2, hf] using this
        have e2 : st2 2 1 j (nx2 t 2 1) = st2 2 1 n s1 := by
          have := HS.out
          simpa [st2, hf] using this
        have hal : acc.length ≤ 255 := by
          have h3 := congrArg List.length e1
          simp only [List.length_append, List.length_cons, List.length_nil] at h3
          have := HE.out
          omega
        have E1 := Lib.hid e1
        have E2 := Lib.hid e2
        have hw1 : IntKind.u32.wrap ((j : Int) + 1 - 1) = j := by rw [IntKind.wrap_u32]; omega
        clear hff hf e1 e2 h0 HA HS
        go_wp2_with fail
        refine HFF.out.mono ?_; rintro e w2 ⟨rfl, rfl⟩
        go_wp2_with fail
        refine (HO.out t _ HR.out (by omega) HV1.out hgw).mono ?_; rintro e w3 ⟨rfl, h3, k3⟩
        have H3 := Lib.hid h3
        have K3 := Lib.hid (HK.out.trans k3)
        have W3 := Lib.hid (own_kept HW.out k3 hg)
        have z3 := k3.size
        clear h3 k3
        have hsl : SlF (w3.alloc (.cells #[.int .i64 (nv t 2), .int .i64 (nv (nx t 2) 1)] 41)) 2 (some ⟨w3.heap.size, 0, none⟩) 1 (one2 (nv t 2) (nv (nx t 2) 1)) := by
          refine .inr ⟨w3.heap.size, 0, rfl, fun i hi r hr => ?_⟩
          obtain rfl : i = 0 := by omega
          rcases (show r = 0 ∨ r = 1 by omega) with rfl | rfl
          · exact (bk_cell (bk_new w3 _) 0).trans rfl
          · exact (bk_cell (bk_new w3 _) 1).trans rfl
        have HSL := Lib.hid hsl
        clear hsl
        go_wp2_with (at_builtin; refine appF rfl _ _ _ rfl keP u5 acc.length (val2 acc) (by rfl) (by exact own_kept W3.out ((Kept.refl g _).allocd _) hg) (some ⟨w3.heap.size, 0, none⟩) 1 1 (one2 (nv t 2) (nv (nx t 2) 1)) (by rfl) (fun e => by cases e) (by exact HSL.out) (fun i r hr => by unfold one2; split <;> rfl) (by omega) ?c2 ?c1)
        case c2 => simp; omega
        case c1 =>
          intro v' w4 ho4 hb4 hg4
          have hgr : RdS w4 g (nx2 t 2 1) := by
            refine (hg4.block g ?_ ?_).trans (bk_alloc H3.out _)
            · simp; omega
            · intro e
              have := (W3.out.lt _ e.symm).1
              omega
          have hk4 : Kept g w w4 := ((K3.out).allocd _).appd hb4 (Nat.le_refl _)
          have HR4 := Lib.hid hgr
          have HK4 := Lib.hid hk4
          have HO4 := Lib.hid ho4
          clear hgr hk4 ho4 hb4 hg4
          go_wp2
          refine ⟨⟨j, acc ++ [(nv t 2, nv (nx t 2) 1)], nx2 t 2 1, by simp [hw1], by omega, E1.out, E2.out, Nat.le_trans (Nat.le_trans (nx_le _ _) (nx_le _ _)) hts, HR4.out, ?_, HK4.out⟩, by simp [intOf, hw1]⟩
          have := HO4.out
          rw [flat_one2] at this
          rw [val2_snoc, List.length_append]
          exact this
set_option maxHeartbeats 4000000 in
theorem all_Window (g rc nc : Nat) (s : St) (w : World) (h : RdS w g s) (hs : s.t.size ≤ 140737488351232) (hv : GV w g rc nc) (hg : g < w.heap.size) :
    Calls Try.prog 48 #[.pointer (some ⟨g, 0, none⟩), .func (.func 49) #[] #[.pointer (some ⟨nc, 0, none⟩)]] w fun e w' => ∃ v,
      e = .returned v ∧ w'.ownsRow w.heap.size 44 2 v (el2 1 1 (nv s 1).toNat (nx s 1)).length (val2 (el2 1 1 (nv s 1).toNat (nx s 1))) ∧ RdS w' g (st2 1 1 (nv s 1).toNat (nx s 1)) ∧ Kept g w w' := by
  have HO := Lib.hid fun (s : St) (W : World) (h : RdS W g s) (hs : s.t.size ≤ 140737488351232) (hv : GV W g rc nc) (hg : g < W.heap.size) => gone2_Window g rc nc s W h hs hv hg
  have HF := Lib.hid fun (s : St) (W : World) (h : RdS W g s) => fine_any g s.t s.f W h
  have HN := Lib.hid (num_any g s.t s.f 1 w h hs)
  have HV := Lib.hid hv
  have hnb := nv1_bd s
  have hx1 := nx_le s 1
  change Hid (Calls _ _ _ _ fun e w' => e = .returned (.int .u32 (nv s 1)) ∧ RdS w' g (nx s 1) ∧ Kept g w w') at HN
  clear h hv
  obtain ⟨n, hn⟩ : ∃ n : Nat, nv s 1 = n := ⟨(nv s 1).toNat, by omega⟩
  rw [hn] at HN hnb
  simp only [hn, Int.toNat_natCast]
  clear hn
  generalize nx s 1 = s1 at *
  have HE := Lib.hid (el2_len 1 1 n s1)
  go_enter Try.func48, Try.ntmps48
  go_wp2_with fail
  refine HN.out.mono ?_; rintro e w1 ⟨rfl, h1, k1⟩
  have H1 := Lib.hid h1
  have K1 := Lib.hid k1
  clear h1 k1
  go_wp2_with fail
  go_loopw [5, 6] (fun lv nv' W' => ∃ (k : Nat) (acc : List (Int × Int)) (t : St), nv' = .int .u32 k ∧ k ≤ n ∧ acc ++ el2 1 1 k t = el2 1 1 n s1 ∧ st2 1 1 k t = st2 1 1 n s1 ∧ t.t.size ≤ s.t.size ∧ RdS W' g t ∧ W'.ownsRow w.heap.size 44 2 lv acc.length (val2 acc) ∧ Kept g w W') (fun _ nv' _ => (intOf nv').toNat)
  case atStart => exact ⟨n, [], s1, rfl, Nat.le_refl _, rfl, rfl, by omega, H1.out, own_nil, K1.out⟩
  case round =>
    obtain ⟨k, acc, t, rfl, hkn, hacc, hst, hts, hr, ho, hk⟩ := hrel
    have HA := Lib.hid hacc
    have HS := Lib.hid hst
    have HR := Lib.hid hr
    have HW := Lib.hid ho
    have HK := Lib.hid hk
    have HV1 := Lib.hid (HV.out.kept hk)
    have hgw : g < wr.heap.size := Nat.lt_of_lt_of_le hg hk.size
    have hwr : w.heap.size ≤ wr.heap.size := hk.size
    clear hacc hst hr ho hk
    by_cases h0 : k = 0
    · subst h0
      go_wp2
      go_ret
      have e1 : acc = el2 1 1 n s1 := by simpa [el2] using HA.out
      have e2 : t = st2 1 1 n s1 := by simpa [st2] using HS.out
      exact ⟨_, rfl, by rw [← e1]; exact HW.out, by rw [← e2]; exact HR.out, HK.out⟩
    · have hk0 : (0 : Int) < k := by omega
      cases hf : t.f with
      | false =>
        have hff := HF.out t wr HR.out
        rw [hf] at hff
        have HFF := Lib.hid hff
        have e1 : acc = el2 1 1 n s1 := by
          have := HA.out
          obtain ⟨j, rfl⟩ := Nat.exists_eq_succ_of_ne_zero h0
          simpa [el2, hf] using this
        have e2 : t = st2 1 1 n s1 := by
          have := HS.out
          obtain ⟨j, rfl⟩ := Nat.exists_eq_succ_of_ne_zero h0
          simpa [st2, hf] using this
        have E1 := Lib.hid e1
        have E2 := Lib.hid e2
        clear hff hf e1 e2
        go_wp2_with fail
        refine HFF.out.mono ?_; rintro e w2 ⟨rfl, rfl⟩
        go_wp2
        go_ret
        exact ⟨_, rfl, by rw [← E1.out]; exact HW.out, by rw [← E2.out]; exact HR.out, HK.out⟩
      | true =>
        have hff := HF.out t wr HR.out
        rw [hf] at hff
        have HFF := Lib.hid hff
        obtain ⟨j, rfl⟩ := Nat.exists_eq_succ_of_ne_zero h0
        have e1 : (acc ++ [(nv t 1, nv (nx t 1) 1)]) ++ el2 1 1 j (nx2 t 1 1) = el2 1 1 n s1 := by
          have := HA.out
          simpa [el2, hf] using this
        have e2 : st2 1 1 j (nx2 t 1 1) = st2 1 1 n s1 := by
          have := HS.out
          simpa [st2, hf] using this
        have hal : acc.length ≤ 255 := by
          have h3 := congrArg List.length e1
          simp only [List.length_append, List.length_cons, List.length_nil] at h3
          have := HE.out
          omega
        have E1 := Lib.hid e1
        have E2 := Lib.hid e2
        have hw1 : IntKind.u32.wrap ((j : Int) + 1 - 1) = j := by rw [IntKind.wrap_u32]; omega
        clear hff hf e1 e2 h0 HA HS
        go_wp2_with fail
        refine HFF.out.mono ?_; rintro e w2 ⟨rfl, rfl⟩
        go_wp2_with fail
        refine (HO.out t _ HR.out (by omega) HV1.out hgw).mono ?_; rintro e w3 ⟨rfl, h3, k3⟩
        have H3 := Lib.hid h3
        have K3 := Lib.hid (HK.out.trans k3)
        have W3 := Lib.hid (own_kept HW.out k3 hg)
        have z3 := k3.size
        clear h3 k3
        have hsl : SlF (w3.alloc (.cells #[.int .i64 (nv t 1), .int .i64 (nv (nx t 1) 1)] 44)) 2 (some ⟨w3.heap.size, 0, none⟩) 1 (one2 (nv t 1) (nv (nx t 1) 1)) := by
          refine .inr ⟨w3.heap.size, 0, rfl, fun i hi r hr => ?_⟩
          obtain rfl : i = 0 := by omega
          rcases (show r = 0 ∨ r = 1 by omega) with rfl | rfl
          · exact (bk_cell (bk_new w3 _) 0).trans rfl
          · exact (bk_cell (bk_new w3 _) 1).trans rfl
        have HSL := Lib.hid hsl
        clear hsl
        go_wp2_with (at_builtin; refine appF rfl _ _ _ rfl keW u5 acc.length (val2 acc) (by rfl) (by exact own_kept W3.out ((Kept.refl g _).allocd _) hg) (some ⟨w3.heap.size, 0, none⟩) 1 1 (one2 (nv t 1) (nv (nx t 1) 1)) (by rfl) (fun e => by cases e) (by exact HSL.out) (fun i r hr => by unfold one2; split <;> rfl) (by omega) ?c2 ?c1)
        case c2 => simp; omega
        case c1 =>
          intro v' w4 ho4 hb4 hg4
          have hgr : RdS w4 g (nx2 t 1 1) := by
            refine (hg4.block g ?_ ?_).trans (bk_alloc H3.out _)
            · simp; omega
            · intro e
              have := (W3.out.lt _ e.symm).1
              omega
          have hk4 : Kept g w w4 := ((K3.out).allocd _).appd hb4 (Nat.le_refl _)
          have HR4 := Lib.hid hgr
          have HK4 := Lib.hid hk4
          have HO4 := Lib.hid ho4
          clear hgr hk4 ho4 hb4 hg4
          go_wp2
          refine ⟨⟨j, acc ++ [(nv t 1, nv (nx t 1) 1)], nx2 t 1 1, by simp [hw1], by omega, E1.out, E2.out, Nat.le_trans (Nat.le_trans (nx_le _ _) (nx_le _ _)) hts, HR4.out, ?_, HK4.out⟩, by simp [intOf, hw1]⟩
          have := HO4.out
          rw [flat_one2] at this
          rw [val2_snoc, List.length_append]
          exact this
set_option maxHeartbeats 4000000 in
theorem all_ChanConf (g rc nc : Nat) (s : St) (w : World) (h : RdS w g s) (hs : s.t.size ≤ 140737488351232) (hv : GV w g rc nc) (hg : g < w.heap.size) :
    Calls Try.prog 50 #[.pointer (some ⟨g, 0, none⟩), .func (.func 51) #[] #[.pointer (some ⟨nc, 0, none⟩)]] w fun e w' => ∃ v,
      e = .returned v ∧ w'.ownsRow w.heap.size 46 4 v (el4 (nv s 1).toNat (nx s 1)).length (val4 (el4 (nv s 1).toNat (nx s 1))) ∧ RdS w' g (st4 (nv s 1).toNat (nx s 1)) ∧ Kept g w w' := by
  have HO := Lib.hid fun (s : St) (W : World) (h : RdS W g s) (hs : s.t.size ≤ 140737488351232) (hv : GV W g rc nc) (hg : g < W.heap.size) => gone4 g rc nc s W h hs hv hg
  have HF := Lib.hid fun (s : St) (W : World) (h : RdS W g s) => fine_any g s.t s.f W h
  have HN := Lib.hid (num_any g s.t s.f 1 w h hs)
  have HV := Lib.hid hv
  have hnb := nv1_bd s
  have hx1 := nx_le s 1
  change Hid (Calls _ _ _ _ fun e w' => e = .returned (.int .u32 (nv s 1)) ∧ RdS w' g (nx s 1) ∧ Kept g w w') at HN
  clear h hv
  obtain ⟨n, hn⟩ : ∃ n : Nat, nv s 1 = n := ⟨(nv s 1).toNat, by omega⟩
  rw [hn] at HN hnb
  simp only [hn, Int.toNat_natCast]
  clear hn
  generalize nx s 1 = s1 at *
  have HE := Lib.hid (el4_len n s1)
  go_enter Try.func50, Try.ntmps50
  go_wp2_with fail
  refine HN.out.mono ?_; rintro e w1 ⟨rfl, h1, k1⟩
  have H1 := Lib.hid h1
  have K1 := Lib.hid k1
  clear h1 k1
  go_wp2_with fail
  go_loopw [5, 6] (fun lv nv' W' => ∃ (k : Nat) (acc : List (Int × Int × Int × Int)) (t : St), nv' = .int .u32 k ∧ k ≤ n ∧ acc ++ el4 k t = el4 n s1 ∧ st4 k t = st4 n s1 ∧ t.t.size ≤ s.t.size ∧ RdS W' g t ∧ W'.ownsRow w.heap.size 46 4 lv acc.length (val4 acc) ∧ Kept g w W') (fun _ nv' _ => (intOf nv').toNat)
  case atStart => exact ⟨n, [], s1, rfl, Nat.le_refl _, rfl, rfl, by omega, H1.out, own_nil, K1.out⟩
  case round =>
    obtain ⟨k, acc, t, rfl, hkn, hacc, hst, hts, hr, ho, hk⟩ := hrel
    have HA := Lib.hid hacc
    have HS := Lib.hid hst
    have HR := Lib.hid hr
    have HW := Lib.hid ho
    have HK := Lib.hid hk
    have HV1 := Lib.hid (HV.out.kept hk)
    have hgw : g < wr.heap.size := Nat.lt_of_lt_of_le hg hk.size
    have hwr : w.heap.size ≤ wr.heap.size := hk.size
    clear hacc hst hr ho hk
    by_cases h0 : k = 0
    · subst h0
      go_wp2
      go_ret
      have e1 : acc = el4 n s1 := by simpa [el4] using HA.out
      have e2 : t = st4 n s1 := by simpa [st4] using HS.out
      exact ⟨_, rfl, by rw [← e1]; exact HW.out, by rw [← e2]; exact HR.out, HK.out⟩
    · have hk0 : (0 : Int) < k := by omega
      cases hf : t.f with
      | false =>
        have hff := HF.out t wr HR.out
        rw [hf] at hff
        have HFF := Lib.hid hff
        have e1 : acc = el4 n s1 := by
          have := HA.out
          obtain ⟨j, rfl⟩ := Nat.exists_eq_succ_of_ne_zero h0
          simpa [el4, hf] using this
        have e2 : t = st4 n s1 := by
          have := HS.out
          obtain ⟨j, rfl⟩ := Nat.exists_eq_succ_of_ne_zero h0
          simpa [st4, hf] using this
        have E1 := Lib.hid e1
        have E2 := Lib.hid e2
        clear hff hf e1 e2
        go_wp2_with fail
        refine HFF.out.mono ?_; rintro e w2 ⟨rfl, rfl⟩
        go_wp2
        go_ret
        exact ⟨_, rfl, by rw [← E1.out]; exact HW.out, by rw [← E2.out]; exact HR.out, HK.out⟩
      | true =>
        have hff := HF.out t wr HR.out
        rw [hf] at hff
        have HFF := Lib.hid hff
        obtain ⟨j, rfl⟩ := Nat.exists_eq_succ_of_ne_zero h0
        have e1 : (acc ++ [(nv t 1, nv (nx t 1) 1, nv (nx (nx t 1) 1) 1, nv (nx (nx (nx t 1) 1) 1) 1)]) ++ el4 j (nx4 t) = el4 n s1 := by
          have := HA.out
          simpa [el4, hf] using this
        have e2 : st4 j (nx4 t) = st4 n s1 := by
          have := HS.out
          simpa [st4, hf] using this
        have hal : acc.length ≤ 255 := by
          have h3 := congrArg List.length e1
          simp only [List.length_append, List.length_cons, List.length_nil] at h3
          have := HE.out
          omega
        have E1 := Lib.hid e1
        have E2 := Lib.hid e2
        have hw1 : IntKind.u32.wrap ((j : Int) + 1 - 1) = j := by rw [IntKind.wrap_u32]; omega
        clear hff hf e1 e2 h0 HA HS
        go_wp2_with fail
        refine HFF.out.mono ?_; rintro e w2 ⟨rfl, rfl⟩
        go_wp2_with fail
        refine (HO.out t _ HR.out (by omega) HV1.out hgw).mono ?_; rintro e w3 ⟨rfl, h3, k3⟩
        have H3 := Lib.hid h3
        have K3 := Lib.hid (HK.out.trans k3)
        have W3 := Lib.hid (own_kept HW.out k3 hg)
        have z3 := k3.size
        clear h3 k3
        have hsl : SlF (w3.alloc (.cells #[.int .i64 (nv t 1), .int .i64 (nv (nx t 1) 1), .int .i64 (nv (nx (nx t 1) 1) 1), .int .i64 (nv (nx (nx (nx t 1) 1) 1) 1)] 46)) 4 (some ⟨w3.heap.size, 0, none⟩) 1 (one4 (nv t 1) (nv (nx t 1) 1) (nv (nx (nx t 1) 1) 1) (nv (nx (nx (nx t 1) 1) 1) 1)) := by
          refine .inr ⟨w3.heap.size, 0, rfl, fun i hi r hr => ?_⟩
          obtain rfl : i = 0 := by omega
          rcases (show r = 0 ∨ r = 1 ∨ r = 2 ∨ r = 3 by omega) with rfl | rfl | rfl | rfl
          · exact (bk_cell (bk_new w3 _) 0).trans rfl
          · exact (bk_cell (bk_new w3 _) 1).trans rfl
          · exact (bk_cell (bk_new w3 _) 2).trans rfl
          · exact (bk_cell (bk_new w3 _) 3).trans rfl
        have HSL := Lib.hid hsl
        clear hsl
        go_wp2_with (at_builtin; refine appF rfl _ _ _ rfl keC u5 acc.length (val4 acc) (by rfl) (by exact own_kept W3.out ((Kept.refl g _).allocd _) hg) (some ⟨w3.heap.size, 0, none⟩) 1 1 (one4 (nv t 1) (nv (nx t 1) 1) (nv (nx (nx t 1) 1) 1) (nv (nx (nx (nx t 1) 1) 1) 1)) (by rfl) (fun e => by cases e) (by exact HSL.out) (fun i r hr => by unfold one4; (repeat' split) <;> rfl) (by omega) ?c2 ?c1)
        case c2 => simp; omega
        case c1 =>
          intro v' w4 ho4 hb4 hg4
          have hgr : RdS w4 g (nx4 t) := by
            refine (hg4.block g ?_ ?_).trans (bk_alloc H3.out _)
            · simp; omega
            · intro e
              have := (W3.out.lt _ e.symm).1
              omega
          have hk4 : Kept g w w4 := ((K3.out).allocd _).appd hb4 (Nat.le_refl _)
          have HR4 := Lib.hid hgr
          have HK4 := Lib.hid hk4
          have HO4 := Lib.hid ho4
          clear hgr hk4 ho4 hb4 hg4
          go_wp2
          refine ⟨⟨j, acc ++ [(nv t 1, nv (nx t 1) 1, nv (nx (nx t 1) 1) 1, nv (nx (nx (nx t 1) 1) 1) 1)], nx4 t, by simp [hw1], by omega, E1.out, E2.out, Nat.le_trans (Nat.le_trans (nx_le _ _) (Nat.le_trans (nx_le _ _) (Nat.le_trans (nx_le _ _) (nx_le _ _)))) hts, HR4.out, ?_, HK4.out⟩, by simp [intOf, hw1]⟩
          have := HO4.out
          rw [flat_one4] at this
          rw [val4_snoc, List.length_append]
          exact this
end Go.Proofs.Ythgoighpmnecbaa
namespace Go.Proofs.Ythgoighpmnecbaa
open Go.RowKit
set_option linter.unusedVariables false
set_option linter.unusedSimpArgs false
/-- three empty rows -/
def no3 : Array Value := #[.slice none 0 0, .slice none 0 0, .slice none 0 0]
theorem setc3 {w : World} {b : Nat} {v0 v1 v2 : Value} (h : w.heap[b]? = some (.cells #[v0, v1, v2] 26 (0, 0))) (x y z : Value) : (((w.setCell ⟨b, 0, none⟩ x).setCell ⟨b, 1, none⟩ y).setCell ⟨b, 2, none⟩ z).heap[b]? = some (.cells #[x, y, z] 26 (0, 0)) :=
  bk_set (bk_set (bk_set h 0 x) 1 y) 2 z
theorem c3_at {w : World} {b : Nat} {v0 v1 v2 : Value} (h : w.heap[b]? = some (.cells #[v0, v1, v2] 26 (0, 0))) : w.cell? ⟨b, 0, none⟩ = some v0 ∧ w.cell? ⟨b, 1, none⟩ = some v1 ∧ w.cell? ⟨b, 2, none⟩ = some v2 ∧ w.frozen? ⟨b, 0, none⟩ = false ∧ w.frozen? ⟨b, 1, none⟩ = false ∧ w.frozen? ⟨b, 2, none⟩ = false :=
  ⟨(bk_cell h 0).trans rfl, (bk_cell h 1).trans rfl, (bk_cell h 2).trans rfl, bk_frozen h 0, bk_frozen h 1, bk_frozen h 2⟩
/-- the configuration put out -/
def wiped (w : World) (b : Nat) : World := ((w.setCell ⟨b, 0, none⟩ (.slice none 0 0)).setCell ⟨b, 1, none⟩ (.slice none 0 0)).setCell ⟨b, 2, none⟩ (.slice none 0 0)
theorem get1_ok (c e : Nat) (v0 v1 v2 : Value) (w : World) (hc : w.heap[c]? = some (.cells #[v0, v1, v2] 26 (0, 0))) (he : w.heap[e]? = some (.cells #[.int .i64 0] 29 (0, 0))) :
    CallsD Try.prog 40 #[.pointer (some ⟨e, 0, none⟩), .pointer (some ⟨c, 0, none⟩)] .returning w fun e u' w' => e = .returned (.tuple #[]) ∧ u' = .returning ∧ w' = w := by
  have e0 : w.cell? ⟨e, 0, none⟩ = some (.int .i64 0) := (bk_cell he 0).trans rfl
  refine callsD_of_wpS Try.func40 rfl fun c₀ cs hu => ?_
  apply wpS_seq
  apply wpS_seq
  apply wpS_region
  simp [wpOpsS, go_sem, recoverD, hu, Try.ntmps40, Exit.thenS]
  refine wpS_of_wp ?_
  simp only [List.size_toArray, List.length_cons, List.length_nil, Nat.reduceAdd, Nat.reduceSub, Array.replicate_succ, Array.replicate_zero, List.push_toArray, List.append_toArray, List.nil_append, List.cons_append, List.setIfInBounds_toArray, List.set_cons_succ, List.set_cons_zero]
  go_wp2
  simp only [Exit.thenS]
  refine wpS_of_wp ?_
  go_wp2
  cases c₀
  simp_all [bodyPostS, results, Try.results40]
theorem get1_err (c e : Nat) (n : Int) (hn : (n != 0) = true) (v0 v1 v2 : Value) (w : World) (hc : w.heap[c]? = some (.cells #[v0, v1, v2] 26 (0, 0))) (he : w.heap[e]? = some (.cells #[.int .i64 n] 29 (0, 0))) :
    CallsD Try.prog 40 #[.pointer (some ⟨e, 0, none⟩), .pointer (some ⟨c, 0, none⟩)] .returning w fun e u' w' => e = .returned (.tuple #[]) ∧ u' = .returning ∧ w' = wiped w c := by
  have e0 : w.cell? ⟨e, 0, none⟩ = some (.int .i64 n) := (bk_cell he 0).trans rfl
  have hn2 : (n == 0) = false := by simp only [bne, Bool.not_eq_true'] at hn; exact hn
  obtain ⟨c0, c1, c2, f0, f1, f2⟩ := c3_at hc
  refine callsD_of_wpS Try.func40 rfl fun c₀ cs hu => ?_
  apply wpS_seq
  apply wpS_seq
  apply wpS_region
  simp [wpOpsS, go_sem, recoverD, hu, Try.ntmps40, Exit.thenS]
  refine wpS_of_wp ?_
  simp only [List.size_toArray, List.length_cons, List.length_nil, Nat.reduceAdd, Nat.reduceSub, Array.replicate_succ, Array.replicate_zero, List.push_toArray, List.append_toArray, List.nil_append, List.cons_append, List.setIfInBounds_toArray, List.set_cons_succ, List.set_cons_zero]
  go_wp2
  simp only [Exit.thenS]
  refine wpS_of_wp ?_
  go_wp2
  cases c₀
  simp_all [bodyPostS, results, Try.results40, wiped]
theorem get1_pan (c e : Nat) (x n : Int) (hn : (n != 0) = true) (older : List PanicEntry) (v0 v1 v2 : Value) (w : World) (hc : w.heap[c]? = some (.cells #[v0, v1, v2] 26 (0, 0))) (he : w.heap[e]? = some (.cells #[.int .i64 x] 29 (0, 0))) (hce : c ≠ e) :
    CallsD Try.prog 40 #[.pointer (some ⟨e, 0, none⟩), .pointer (some ⟨c, 0, none⟩)] (.panicking (wrongE n :: older)) w fun e1 u' w' => e1 = .returned (.tuple #[]) ∧ u' = .panicking ({ v := .iface 73 (.agg #[.int .i64 n]), recovered := true } :: older) ∧ w' = wiped (w.setCell ⟨e, 0, none⟩ (.int .i64 n)) c := by
  have e0 : w.cell? ⟨e, 0, none⟩ = some (.int .i64 x) := (bk_cell he 0).trans rfl
  have f0 : w.frozen? ⟨e, 0, none⟩ = false := bk_frozen he 0
  have hn2 : (n == 0) = false := by simp only [bne, Bool.not_eq_true'] at hn; exact hn
  have e1 : (w.setCell ⟨e, 0, none⟩ (.int .i64 n)).cell? ⟨e, 0, none⟩ = some (.int .i64 n) := (bk_cell (bk_set he 0 (.int .i64 n)) 0).trans rfl
  obtain ⟨c0, c1, c2, g0, g1, g2⟩ := c3_at (bk_far hc hce (p := ⟨e, 0, none⟩) (.int .i64 n))
  have hta : ∀ w, (Instr.typeAssert (.iface 73 (.agg #[.int .i64 n])) 20 73 false).run Try.prog w = .ok (.agg #[.int .i64 n]) w := fun w => by kernel_rfl
  have hfi : ∀ w, (Instr.field 73 (.agg #[.int .i64 n]) 0).run Try.prog w = .ok (.int .i64 n) w := fun w => by kernel_rfl
  refine callsD_of_wpS Try.func40 rfl fun c₀ cs hu => ?_
  apply wpS_seq
  apply wpS_seq
  apply wpS_region
  simp [wpOpsS, go_sem, recoverD, hu, Try.ntmps40, Exit.thenS, wrongE]
  refine wpS_of_wp ?_
  simp only [List.size_toArray, List.length_cons, List.length_nil, Nat.reduceAdd, Nat.reduceSub, Array.replicate_succ, Array.replicate_zero, List.push_toArray, List.append_toArray, List.nil_append, List.cons_append, List.setIfInBounds_toArray, List.set_cons_succ, List.set_cons_zero]
  go_wp2
  simp only [Exit.thenS]
  refine wpS_of_wp ?_
  go_wp2
  simp_all [bodyPostS, results, Try.results40, wiped]
theorem wiped_c {w : World} {b : Nat} {v0 v1 v2 : Value} (h : w.heap[b]? = some (.cells #[v0, v1, v2] 26 (0, 0))) : (wiped w b).heap[b]? = some (.cells no3 26 (0, 0)) := setc3 h _ _ _
theorem wiped_far {w : World} {b c : Nat} {o : Obj} (h : w.heap[b]? = some o) (hb : b ≠ c) : (wiped w c).heap[b]? = some o := bk_far (p := ⟨c, 2, none⟩) (bk_far (p := ⟨c, 1, none⟩) (bk_far (p := ⟨c, 0, none⟩) h hb _) hb _) hb _
theorem wiped_below {w w' : World} {B c : Nat} (h : Below B w w') (hc : B ≤ c) : Below B w (wiped w' c) := ((h.setCell (p := ⟨c, 0, none⟩) hc _).setCell (p := ⟨c, 1, none⟩) hc _).setCell (p := ⟨c, 2, none⟩) hc _
/-- what Get answers -/
def GetR (s : ByteArray) (w : World) (e : Ending) (w' : World) : Prop := ∃ ly, e = .returned (.tuple #[.agg (cfgV (gtC s) ly), .int .i64 (gtE s)]) ∧ IsC w' (gtC s) ly ∧ Below w.heap.size w w'
theorem noC_is (w : World) : IsC w noC ⟨none, 0, none, 0, none, 0⟩ := ⟨.inl rfl, .inl rfl, .inl rfl⟩
theorem noC_v : cfgV noC ⟨none, 0, none, 0, none, 0⟩ = no3 := rfl
theorem own_mono {w : World} {B B' e k n : Nat} {v : Value} {zs : List Value} (h : w.ownsRow B e k v n zs) (hB : B' ≤ B) : w.ownsRow B' e k v n zs := by
  obtain ⟨h0, h⟩ := h
  refine ⟨h0, ?_⟩
  rcases h with h | ⟨b, cap, cur, e1, hb1, rest⟩
  · exact .inl h
  · exact .inr ⟨b, cap, cur, e1, Nat.le_trans hB hb1, rest⟩
theorem own_set {w : World} {B c e k n : Nat} {v : Value} {zs : List Value} (h : w.ownsRow B e k v n zs) (hc : c < B) (i : Nat) (x : Value) : (w.setCell ⟨c, i, none⟩ x).ownsRow B e k v n zs := by
  obtain ⟨h0, h⟩ := h
  refine ⟨h0, ?_⟩
  rcases h with h | ⟨b, cap, cur, e1, hb1, hg1, rest⟩
  · exact .inl h
  · exact .inr ⟨b, cap, cur, e1, hb1, bk_far hg1 (by show b ≠ c; omega) x, rest⟩
theorem val2_get : ∀ (l : List (Int × Int)) (i : Nat), i < l.length → (val2 l)[i * 2]? = some (.int .i64 (l.getD i (0, 0)).1) ∧ (val2 l)[i * 2 + 1]? = some (.int .i64 (l.getD i (0, 0)).2)
  | [], i, h => by simp at h
  | x :: l, 0, h => by simp [val2]
  | x :: l, i + 1, h => by
    have ih := val2_get l i (by simpa using h)
    have e : val2 (x :: l) = .int .i64 x.1 :: .int .i64 x.2 :: val2 l := by simp [val2]
    rw [e, show (i + 1) * 2 = i * 2 + 1 + 1 by omega]
    exact ih
theorem val4_get : ∀ (l : List (Int × Int × Int × Int)) (i : Nat), i < l.length → (val4 l)[i * 4]? = some (.int .i64 (l.getD i (0, 0, 0, 0)).1) ∧ (val4 l)[i * 4 + 1]? = some (.int .i64 (l.getD i (0, 0, 0, 0)).2.1) ∧ (val4 l)[i * 4 + 2]? = some (.int .i64 (l.getD i (0, 0, 0, 0)).2.2.1) ∧ (val4 l)[i * 4 + 3]? = some (.int .i64 (l.getD i (0, 0, 0, 0)).2.2.2)
  | [], i, h => by simp at h
  | x :: l, 0, h => by simp [val4]
  | x :: l, i + 1, h => by
    have ih := val4_get l i (by simpa using h)
    have e : val4 (x :: l) = .int .i64 x.1 :: .int .i64 x.2.1 :: .int .i64 x.2.2.1 :: .int .i64 x.2.2.2 :: val4 l := by simp [val4]
    rw [e, show (i + 1) * 4 = i * 4 + 1 + 1 + 1 + 1 by omega]
    exact ih
theorem own_read {w : World} {B e k n : Nat} {v : Value} {zs : List Value} (h : w.ownsRow B e k v n zs) : ∃ a c, v = .slice a n c ∧ (n = 0 ∨ ∃ b, a = some ⟨b, 0, none⟩ ∧ B ≤ b ∧ ∀ j u, zs[j]? = some u → w.cell? ⟨b, j, none⟩ = some u) := by
  obtain ⟨h0, h⟩ := h
  rcases h with ⟨rfl, e0⟩ | ⟨g, cap, cur, rfl, hb, hg, hn, hm, hs, ht⟩
  · exact ⟨none, 0, by rw [e0], .inl e0⟩
  · refine ⟨some ⟨g, 0, none⟩, cap, rfl, .inr ⟨g, rfl, hb, fun j u hj => ?_⟩⟩
    have hjl := (List.getElem?_eq_some_iff.1 hj).1
    rw [h0] at hjl
    rw [bk_cell hg j]
    rw [← ht, List.getElem?_take_of_lt hjl] at hj
    simpa using hj
theorem own_sl2 {w : World} {B e : Nat} {v : Value} {l : List (Int × Int)} (h : w.ownsRow B e 2 v l.length (val2 l)) : ∃ a c, v = .slice a l.length c ∧ Sl2 w a l.length (fun i => (l.getD i (0, 0)).1) (fun i => (l.getD i (0, 0)).2) := by
  obtain ⟨a, c, hv, hr⟩ := own_read h
  refine ⟨a, c, hv, ?_⟩
  rcases hr with h | ⟨b, rfl, _, h⟩
  · exact .inl h
  · refine .inr ⟨b, 0, rfl, fun i hi => ?_⟩
    obtain ⟨h1, h2⟩ := val2_get l i hi
    rw [Nat.zero_add]
    exact ⟨h _ _ h1, h _ _ h2⟩
theorem own_sl4 {w : World} {B e : Nat} {v : Value} {l : List (Int × Int × Int × Int)} (h : w.ownsRow B e 4 v l.length (val4 l)) : ∃ a c, v = .slice a l.length c ∧ Sl4 w a l.length (fun i => (l.getD i (0, 0, 0, 0)).1) (fun i => (l.getD i (0, 0, 0, 0)).2.1) (fun i => (l.getD i (0, 0, 0, 0)).2.2.1) (fun i => (l.getD i (0, 0, 0, 0)).2.2.2) := by
  obtain ⟨a, c, hv, hr⟩ := own_read h
  refine ⟨a, c, hv, ?_⟩
  rcases hr with h | ⟨b, rfl, _, h⟩
  · exact .inl h
  · refine .inr ⟨b, 0, rfl, fun i hi => ?_⟩
    obtain ⟨h1, h2, h3, h4⟩ := val4_get l i hi
    rw [Nat.zero_add]
    exact ⟨h _ _ h1, h _ _ h2, h _ _ h3, h _ _ h4⟩
theorem own_isC {s : ByteArray} {w : World} {B e0 e1 e2 : Nat} {a0 a1 a2 : Option Addr} {k0 k1 k2 : Nat} (h0 : w.ownsRow B e0 2 (.slice a0 (lP s).length k0) (lP s).length (val2 (lP s))) (h1 : w.ownsRow B e1 2 (.slice a1 (lW s).length k1) (lW s).length (val2 (lW s))) (h2 : w.ownsRow B e2 4 (.slice a2 (lC s).length k2) (lC s).length (val4 (lC s))) : IsC w (rdC s) ⟨a0, k0, a1, k1, a2, k2⟩ := by
  obtain ⟨a, c, hv, g0⟩ := own_sl2 h0
  cases hv
  obtain ⟨a, c, hv, g1⟩ := own_sl2 h1
  cases hv
  obtain ⟨a, c, hv, g2⟩ := own_sl4 h2
  cases hv
  exact ⟨g0, g1, g2⟩
/-- Get's world, under way -/
structure GI (w W : World) (g : Nat) (t : St) (v0 v1 v2 : Value) : Prop where
  c : W.heap[w.heap.size]? = some (.cells #[v0, v1, v2] 26 (0, 0))
  e : W.heap[w.heap.size + 1]? = some (.cells #[.int .i64 0] 29 (0, 0))
  r : RdS W g t
  b : Below w.heap.size w W
  n : w.heap.size + 1 < g
theorem GI.kept {w W W' : World} {g : Nat} {t t' : St} {v0 v1 v2 : Value} (h : GI w W g t v0 v1 v2) (k : Kept g W W') (r : RdS W' g t') : GI w W' g t' v0 v1 v2 :=
  ⟨k.blk h.c (by have := h.n; omega), k.blk h.e (by have := h.n; omega), r, k.below h.b (by have := h.n; omega) h.b.size, h.n⟩
theorem GI.allocd {w W : World} {g : Nat} {t : St} {v0 v1 v2 : Value} (h : GI w W g t v0 v1 v2) (o : Obj) : GI w (W.alloc o) g t v0 v1 v2 :=
  h.kept ((Kept.refl g W).allocd o) (h.r.allocd o)
theorem GI.set0 {w W : World} {g : Nat} {t : St} {v0 v1 v2 : Value} (h : GI w W g t v0 v1 v2) (x : Value) : GI w (W.setCell ⟨w.heap.size, 0, none⟩ x) g t x v1 v2 :=
  ⟨bk_set h.c 0 x, bk_far h.e (by show w.heap.size + 1 ≠ w.heap.size; omega) x, h.r.far (by have := h.n; omega) 0 x, h.b.setCell (p := ⟨w.heap.size, 0, none⟩) (Nat.le_refl _) x, h.n⟩
theorem GI.set1 {w W : World} {g : Nat} {t : St} {v0 v1 v2 : Value} (h : GI w W g t v0 v1 v2) (x : Value) : GI w (W.setCell ⟨w.heap.size, 1, none⟩ x) g t v0 x v2 :=
  ⟨bk_set h.c 1 x, bk_far h.e (by show w.heap.size + 1 ≠ w.heap.size; omega) x, h.r.far (by have := h.n; omega) 1 x, h.b.setCell (p := ⟨w.heap.size, 1, none⟩) (Nat.le_refl _) x, h.n⟩
theorem GI.set2 {w W : World} {g : Nat} {t : St} {v0 v1 v2 : Value} (h : GI w W g t v0 v1 v2) (x : Value) : GI w (W.setCell ⟨w.heap.size, 2, none⟩ x) g t v0 v1 x :=
  ⟨bk_set h.c 2 x, bk_far h.e (by show w.heap.size + 1 ≠ w.heap.size; omega) x, h.r.far (by have := h.n; omega) 2 x, h.b.setCell (p := ⟨w.heap.size, 2, none⟩) (Nat.le_refl _) x, h.n⟩
theorem GV.set {w : World} {g rc nc c : Nat} (h : GV w g rc nc) (h1 : rc ≠ c) (h2 : nc ≠ c) (i : Nat) (x : Value) : GV (w.setCell ⟨c, i, none⟩ x) g rc nc :=
  ⟨cell_far h.r h1 i x, cell_far h.n h2 i x, h.hr, h.hn⟩
/-- Get's two results, read -/
theorem get_res (tmps : Array Value) (w : World) (b d : Nat) (x y z : Value) (n : Int) (h2 : tmps[2]? = some (.pointer (some ⟨b, 0, none⟩))) (h3 : tmps[3]? = some (.pointer (some ⟨d, 0, none⟩))) (hc : w.heap[b]? = some (.cells #[x, y, z] 26 (0, 0))) (he : w.heap[d]? = some (.cells #[.int .i64 n] 29 (0, 0))) :
    (results Try.f19 tmps).run Try.prog w = .ok (.tuple #[.agg #[x, y, z], .int .i64 n]) w := by
  have h2' : tmps[2]?.getD undef = .pointer (some ⟨b, 0, none⟩) := by rw [h2]; rfl
  have h3' : tmps[3]?.getD undef = .pointer (some ⟨d, 0, none⟩) := by rw [h3]; rfl
  obtain ⟨c0, c1, c2, _⟩ := c3_at hc
  have ce : w.cell? ⟨d, 0, none⟩ = some (.int .i64 n) := (bk_cell he 0).trans rfl
  simp [results, Try.results19, h2', h3', asAddr, go_sem, ce, c0, c1, c2]
theorem get_door_err (s : ByteArray) (w W : World) (g : Nat) (t : St) (v0 v1 v2 : Value) (tmps : Array Value) (h : GI w W g t v0 v1 v2) (h2 : tmps[2]? = some (.pointer (some ⟨w.heap.size, 0, none⟩))) (h3 : tmps[3]? = some (.pointer (some ⟨w.heap.size + 1, 0, none⟩))) (hb : frmB s = false) :
    bodyPostD Try.prog Try.f19 (GetR s w) (Exit.panic [wrongE 6])
      { tmps := tmps, defers := [{ target := Target.fn (Fn.func 40) #[.pointer (some ⟨w.heap.size + 1, 0, none⟩), .pointer (some ⟨w.heap.size, 0, none⟩)], args := #[] }] } W := by
  have hgE : gtE s = 6 := by simp [gtE, hb]
  have hgC : gtC s = noC := by simp [gtC, hgE]
  refine leaves_cons (f := 40) (args := #[.pointer (some ⟨w.heap.size + 1, 0, none⟩), .pointer (some ⟨w.heap.size, 0, none⟩)]) (by simp) (by simp [go_sem]) ?_
  refine (get1_pan w.heap.size (w.heap.size + 1) 0 6 (by decide) [] v0 v1 v2 _ h.c h.e (by omega)).mono ?_
  rintro e u' w'' ⟨rfl, rfl, rfl⟩
  have hE : (wiped (W.setCell ⟨w.heap.size + 1, 0, none⟩ (.int .i64 6)) w.heap.size).heap[w.heap.size + 1]? = some (.cells #[.int .i64 6] 29 (0, 0)) := wiped_far (bk_set h.e 0 _) (by omega)
  have hC : (wiped (W.setCell ⟨w.heap.size + 1, 0, none⟩ (.int .i64 6)) w.heap.size).heap[w.heap.size]? = some (.cells no3 26 (0, 0)) := wiped_c (bk_far h.c (by show w.heap.size ≠ w.heap.size + 1; omega) _)
  have hB : Below w.heap.size w (wiped (W.setCell ⟨w.heap.size + 1, 0, none⟩ (.int .i64 6)) w.heap.size) := wiped_below (h.b.setCell (p := ⟨w.heap.size + 1, 0, none⟩) (by show w.heap.size ≤ w.heap.size + 1; omega) _) (Nat.le_refl _)
  generalize wiped (W.setCell ⟨w.heap.size + 1, 0, none⟩ (.int .i64 6)) w.heap.size = V at *
  have hr : GetR s w (.returned (.tuple #[.agg no3, .int .i64 6])) V := by
    unfold GetR
    rw [hgE, hgC]
    exact ⟨⟨none, 0, none, 0, none, 0⟩, rfl, noC_is _, hB⟩
  have hrun := get_res tmps V w.heap.size (w.heap.size + 1) _ _ _ 6 h2 h3 hC hE
  simp only [settle, List.isEmpty_nil, List.dropWhile]
  unfold Leaves
  rw [hrun]
  exact ⟨_, rfl, hr⟩
/-- what stands behind all that was read -/
structure GJ (s : ByteArray) (w W : World) (ly : Lay) : Prop where
  c : W.heap[w.heap.size]? = some (.cells (cfgV (rdC s) ly) 26 (0, 0))
  e : W.heap[w.heap.size + 1]? = some (.cells #[.int .i64 (gtE s)] 29 (0, 0))
  i : IsC W (rdC s) ly
  b : Below w.heap.size w W
theorem get_door_ret (s : ByteArray) (w W : World) (ly : Lay) (tmps : Array Value) (h : GJ s w W ly) (h2 : tmps[2]? = some (.pointer (some ⟨w.heap.size, 0, none⟩))) (h3 : tmps[3]? = some (.pointer (some ⟨w.heap.size + 1, 0, none⟩))) (hb : frmB s = true) :
    bodyPostD Try.prog Try.f19 (GetR s w) Exit.ret
      { tmps := tmps, defers := [{ target := Target.fn (Fn.func 40) #[.pointer (some ⟨w.heap.size + 1, 0, none⟩), .pointer (some ⟨w.heap.size, 0, none⟩)], args := #[] }] } W := by
  have hc := h.c
  have he := h.e
  unfold cfgV at hc
  refine leaves_cons (f := 40) (args := #[.pointer (some ⟨w.heap.size + 1, 0, none⟩), .pointer (some ⟨w.heap.size, 0, none⟩)]) (by simp) (by simp [go_sem]) ?_
  by_cases hz : gtE s = 0
  · have hgC : gtC s = rdC s := by simp [gtC, hz]
    rw [hz] at he
    refine (get1_ok w.heap.size (w.heap.size + 1) _ _ _ _ hc he).mono ?_
    rintro e u' w'' ⟨rfl, rfl, rfl⟩
    have hrun := get_res tmps w'' w.heap.size (w.heap.size + 1) _ _ _ 0 h2 h3 hc he
    have hr : GetR s w (.returned (.tuple #[.agg (cfgV (rdC s) ly), .int .i64 0])) w'' := by
      unfold GetR
      rw [hz, hgC]
      exact ⟨ly, rfl, h.i, h.b⟩
    simp only [settle, List.isEmpty_nil, List.dropWhile]
    unfold Leaves
    rw [hrun]
    exact ⟨_, rfl, hr⟩
  · have hgC : gtC s = noC := by simp [gtC, hz]
    have hn : (gtE s != 0) = true := by simpa using hz
    refine (get1_err w.heap.size (w.heap.size + 1) _ hn _ _ _ _ hc he).mono ?_
    rintro e u' w'' ⟨rfl, rfl, rfl⟩
    have hE := wiped_far (c := w.heap.size) he (by omega)
    have hC := wiped_c hc
    have hB := wiped_below h.b (Nat.le_refl _)
    generalize wiped W w.heap.size = V at *
    have hrun := get_res tmps V w.heap.size (w.heap.size + 1) _ _ _ _ h2 h3 hC hE
    have hr : GetR s w (.returned (.tuple #[.agg no3, .int .i64 (gtE s)])) V := by
      unfold GetR
      rw [hgC]
      exact ⟨⟨none, 0, none, 0, none, 0⟩, rfl, noC_is _, hB⟩
    simp only [settle, List.isEmpty_nil, List.dropWhile]
    unfold Leaves
    rw [hrun]
    exact ⟨_, rfl, hr⟩
/-- all was read; the error not told yet -/
structure GK (s : ByteArray) (w W : World) (g : Nat) (a0 : Option Addr) (k0 : Nat) (a1 : Option Addr) (k1 : Nat) (a2 : Option Addr) (k2 : Nat) : Prop where
  c : W.heap[w.heap.size]? = some (.cells #[.slice a0 (lP s).length k0, .slice a1 (lW s).length k1, .slice a2 (lC s).length k2] 26 (0, 0))
  e : W.heap[w.heap.size + 1]? = some (.cells #[.int .i64 0] 29 (0, 0))
  o0 : W.ownsRow (g + 1) 41 2 (.slice a0 (lP s).length k0) (lP s).length (val2 (lP s))
  o1 : W.ownsRow (g + 1) 44 2 (.slice a1 (lW s).length k1) (lW s).length (val2 (lW s))
  o2 : W.ownsRow (g + 1) 46 4 (.slice a2 (lC s).length k2) (lC s).length (val4 (lC s))
  b : Below w.heap.size w W
  n : w.heap.size + 1 < g
section
variable {s : ByteArray} {w W W' : World} {g : Nat} {a0 : Option Addr} {k0 : Nat} {a1 : Option Addr} {k1 : Nat} {a2 : Option Addr} {k2 : Nat}
theorem GK.isC (h : GK s w W g a0 k0 a1 k1 a2 k2) : IsC W (rdC s) ⟨a0, k0, a1, k1, a2, k2⟩ := own_isC h.o0 h.o1 h.o2
theorem ownF_below {e k n B : Nat} {v : Value} {zs : List Value} (h : W.ownsRow B e k v n zs) (hb : Below W.heap.size W W') : W'.ownsRow B e k v n zs := by
  obtain ⟨h0, h⟩ := h
  refine ⟨h0, ?_⟩
  rcases h with h | ⟨b, cap, cur, e1, hb1, hg1, rest⟩
  · exact .inl h
  · exact .inr ⟨b, cap, cur, e1, hb1, bk_below hg1 hb, rest⟩
theorem ownF_drew {e k n B : Nat} {v : Value} {zs : List Value} (h : W.ownsRow B e k v n zs) : W.drew.ownsRow B e k v n zs := h
theorem GK.drew (h : GK s w W g a0 k0 a1 k1 a2 k2) : GK s w W.drew g a0 k0 a1 k1 a2 k2 := ⟨h.c, h.e, h.o0, h.o1, h.o2, bdrew h.b, h.n⟩
theorem GK.below (h : GK s w W g a0 k0 a1 k1 a2 k2) (hb : Below W.heap.size W W') : GK s w W' g a0 k0 a1 k1 a2 k2 :=
  ⟨bk_below h.c hb, bk_below h.e hb, ownF_below h.o0 hb, ownF_below h.o1 hb, ownF_below h.o2 hb, bstep h.b hb, h.n⟩
theorem GK.again (h : GK s w W g a0 k0 a1 k1 a2 k2) : GK s w (((W.setCell ⟨w.heap.size, 0, none⟩ (.slice a0 (lP s).length k0)).setCell ⟨w.heap.size, 1, none⟩ (.slice a1 (lW s).length k1)).setCell ⟨w.heap.size, 2, none⟩ (.slice a2 (lC s).length k2)) g a0 k0 a1 k1 a2 k2 := by
  have hn := h.n
  have hne : w.heap.size + 1 ≠ w.heap.size := by omega
  have hlt : w.heap.size < g + 1 := by omega
  exact ⟨setc3 h.c _ _ _, bk_far (p := ⟨w.heap.size, 2, none⟩) (bk_far (p := ⟨w.heap.size, 1, none⟩) (bk_far (p := ⟨w.heap.size, 0, none⟩) h.e hne _) hne _) hne _,
    own_set (own_set (own_set h.o0 hlt _ _) hlt _ _) hlt _ _, own_set (own_set (own_set h.o1 hlt _ _) hlt _ _) hlt _ _, own_set (own_set (own_set h.o2 hlt _ _) hlt _ _) hlt _ _,
    ((h.b.setCell (p := ⟨w.heap.size, 0, none⟩) (Nat.le_refl _) _).setCell (p := ⟨w.heap.size, 1, none⟩) (Nat.le_refl _) _).setCell (p := ⟨w.heap.size, 2, none⟩) (Nat.le_refl _) _, hn⟩
theorem GK.fin (h : GK s w W g a0 k0 a1 k1 a2 k2) (n : Int) (hn : n = gtE s) : GJ s w (W.setCell ⟨w.heap.size + 1, 0, none⟩ (.int .i64 n)) ⟨a0, k0, a1, k1, a2, k2⟩ := by
  subst hn
  have hn := h.n
  exact ⟨bk_far h.c (by show w.heap.size ≠ w.heap.size + 1; omega) _, bk_set h.e 0 _, own_isC (own_set h.o0 (by omega) _ _) (own_set h.o1 (by omega) _ _) (own_set h.o2 (by omega) _ _), h.b.setCell (p := ⟨w.heap.size + 1, 0, none⟩) (by show w.heap.size ≤ w.heap.size + 1; omega) _⟩
/-- what region 9 asks of the world -/
theorem GK.S (h : GK s w W g a0 k0 a1 k1 a2 k2) : GK s w W g a0 k0 a1 k1 a2 k2 ∧ W.cell? ⟨w.heap.size, 0, none⟩ = some (.slice a0 (lP s).length k0) ∧ W.cell? ⟨w.heap.size, 1, none⟩ = some (.slice a1 (lW s).length k1) ∧ W.cell? ⟨w.heap.size, 2, none⟩ = some (.slice a2 (lC s).length k2) ∧ W.frozen? ⟨w.heap.size, 0, none⟩ = false ∧ W.frozen? ⟨w.heap.size, 1, none⟩ = false ∧ W.frozen? ⟨w.heap.size, 2, none⟩ = false :=
  ⟨h, c3_at h.c⟩
theorem GK.SE (h : GK s w W g a0 k0 a1 k1 a2 k2) (v : Value) : (W.setCell ⟨w.heap.size + 1, 0, none⟩ v).cell? ⟨w.heap.size, 0, none⟩ = some (.slice a0 (lP s).length k0) ∧ (W.setCell ⟨w.heap.size + 1, 0, none⟩ v).cell? ⟨w.heap.size, 1, none⟩ = some (.slice a1 (lW s).length k1) ∧ (W.setCell ⟨w.heap.size + 1, 0, none⟩ v).cell? ⟨w.heap.size, 2, none⟩ = some (.slice a2 (lC s).length k2) ∧ (W.setCell ⟨w.heap.size + 1, 0, none⟩ v).frozen? ⟨w.heap.size, 0, none⟩ = false ∧ (W.setCell ⟨w.heap.size + 1, 0, none⟩ v).frozen? ⟨w.heap.size, 1, none⟩ = false ∧ (W.setCell ⟨w.heap.size + 1, 0, none⟩ v).frozen? ⟨w.heap.size, 2, none⟩ = false :=
  c3_at (bk_far (p := ⟨w.heap.size + 1, 0, none⟩) h.c (by show w.heap.size ≠ w.heap.size + 1; omega) v)
end
set_option maxHeartbeats 400000 in
theorem get_any (s : ByteArray) (w : World) (hs : s.size ≤ 140737488351232) :
    Calls Try.prog 19 #[.string s] w (GetR s w) := by
  have hmf : ∀ (fn : Fn) (first cap : Array Value) (w : World), (Instr.makeFunc fn first cap).run Try.prog w = .ok (.func fn first cap) w := fun _ _ _ _ => rfl
  go_enter_defers Try.func19, Try.ntmps19
  go_wp2_with fail
  refine (new_any s _).mono ?_; rintro e w1 ⟨g, rfl, h1, hg, hb1⟩
  have hI1 : GI w w1 g ⟨s, true⟩ (.slice none 0 0) (.slice none 0 0) (.slice none 0 0) := by
    refine ⟨bk_below (bk_alloc (bk_new w _) _) hb1, bk_below (by have := bk_new (w.alloc (.cells #[.slice none 0 0, .slice none 0 0, .slice none 0 0] 26)) (.cells #[.int .i64 0] 29); rwa [World.size_alloc] at this) hb1, h1, bstep (by go_grown) hb1, by simp at hg; omega⟩
  have HI1 := Lib.hid hI1
  have hl1 := bk_lt hI1.r
  have hn1 := hI1.n
  clear h1 hg hb1 hI1
  go_wp2_with fail
  refine (text_any g s true ⟨#[80, 82, 49]⟩ _ (by exact (HI1.out.allocd _).r) hs (by decide)).mono ?_; rintro e w2 ⟨rfl, h2, k2⟩
  have HI2 := Lib.hid ((HI1.out.allocd _).kept k2 (t' := sH s) h2)
  have HR2 := Lib.hid (k2.blk (bk_new w1 _) (by omega))
  have hz2 : w1.heap.size < w2.heap.size := by have := k2.size; simp at this; omega
  clear h2 k2
  cases hx : txF s true ⟨#[80, 82, 49]⟩ with
  | false =>
    have hfr : frmB s = false := frm_bad hx
    clear hx
    go_wp2_with fail
    refine (must_no _ _).mono ?_; rintro e w3 ⟨rfl, rfl⟩
    go_wp2
    exact get_door_err s w _ g _ _ _ _ _ HI2.out rfl rfl hfr
  | true =>
    go_wp2_with fail
    refine (must_yes _ _).mono ?_; rintro e w3 ⟨rfl, rfl⟩
    have cr : w3.cell? ⟨w1.heap.size, 0, none⟩ = some (.pointer (some ⟨g, 0, none⟩)) := (bk_cell HR2.out 0).trans rfl
    have hl3 : g < w3.heap.size := bk_lt HI2.out.r
    have hsH : (sH s).t.size ≤ s.size := by
      unfold sH txS cutS
      simp only [if_true]
      split
      · rw [ByteArray.size_extract]; omega
      · exact Nat.le_refl _
    go_wp2_with fail
    have hgv : GV (w3.alloc (.cells #[.func (.func 44) #[] #[.pointer (some ⟨w1.heap.size, 0, none⟩)]] 78)) g w1.heap.size w3.heap.size :=
      ⟨(bk_cell (bk_alloc HR2.out _) 0).trans rfl, (bk_cell (bk_new w3 _) 0).trans rfl, by omega, by omega⟩
    refine (all_PartConf g w1.heap.size w3.heap.size (sH s) _ (by exact (HI2.out.allocd _).r) (by omega) hgv (by simp; omega)).mono ?_
    rintro e w4 ⟨v, rfl, ho, hr, hk⟩
    have HI4 := Lib.hid (show GI w w4 g (sP s) _ _ _ from (HI2.out.allocd _).kept hk hr)
    have HG4 := Lib.hid (hgv.kept hk)
    have HO0 := Lib.hid (show w4.ownsRow (g + 1) 41 2 v (lP s).length (val2 (lP s)) from own_mono (B' := g + 1) ho (by simp; omega))
    have hl4 : w3.heap.size < w4.heap.size := by have := hk.size; simp at this; omega
    obtain ⟨a0, k0, rfl, _⟩ := own_read HO0.out
    have cr4 := HG4.out.r
    obtain ⟨p0, p1, p2, q0, q1, q2⟩ := c3_at HI4.out.c
    clear ho hr hk hgv cr
    go_wp2_with fail
    have hgv : GV (w4.setCell ⟨w.heap.size, 0, none⟩ (.slice a0 (lP s).length k0)) g w1.heap.size w3.heap.size := HG4.out.set (by omega) (by omega) _ _
    have hsP : (sP s).t.size ≤ s.size := Nat.le_trans (st2_le _ _ _ _) (Nat.le_trans (nx_le _ _) hsH)
    refine (all_Window g w1.heap.size w3.heap.size (sP s) _ (by exact (HI4.out.set0 _).r) (by omega) hgv (by simp; omega)).mono ?_
    rintro e w5 ⟨v, rfl, ho, hr, hk⟩
    have HI5 := Lib.hid (show GI w w5 g (sW s) _ _ _ from (HI4.out.set0 _).kept hk hr)
    have HG5 := Lib.hid (hgv.kept hk)
    have HO01 := Lib.hid (own_kept (own_set HO0.out (by omega) 0 (.slice a0 (lP s).length k0)) hk (by omega))
    have HO1 := Lib.hid (show w5.ownsRow (g + 1) 44 2 v (lW s).length (val2 (lW s)) from own_mono (B' := g + 1) ho (by simp; omega))
    have hl5 : w3.heap.size < w5.heap.size := by have := hk.size; simp at this; omega
    obtain ⟨a1, k1, rfl, _⟩ := own_read HO1.out
    have cr5 := HG5.out.r
    clear cr4 p0 p1 p2 q0 q1 q2
    obtain ⟨p0, p1, p2, q0, q1, q2⟩ := c3_at HI5.out.c
    clear ho hr hk hgv
    go_wp2_with fail
    have hgv : GV (w5.setCell ⟨w.heap.size, 1, none⟩ (.slice a1 (lW s).length k1)) g w1.heap.size w3.heap.size := HG5.out.set (by omega) (by omega) _ _
    have hsW : (sW s).t.size ≤ s.size := Nat.le_trans (st2_le _ _ _ _) (Nat.le_trans (nx_le _ _) hsP)
    refine (all_ChanConf g w1.heap.size w3.heap.size (sW s) _ (by exact (HI5.out.set1 _).r) (by omega) hgv (by simp; omega)).mono ?_
    rintro e w6 ⟨v, rfl, ho, hr, hk⟩
    have HI6 := Lib.hid (show GI w w6 g (sC s) _ _ _ from (HI5.out.set1 _).kept hk hr)
    have HG6 := Lib.hid (hgv.kept hk)
    have HO02 := Lib.hid (own_kept (own_set HO01.out (by omega) 1 (.slice a1 (lW s).length k1)) hk (by omega))
    have HO12 := Lib.hid (own_kept (own_set HO1.out (by omega) 1 (.slice a1 (lW s).length k1)) hk (by omega))
    have HO2 := Lib.hid (show w6.ownsRow (g + 1) 46 4 v (lC s).length (val4 (lC s)) from own_mono (B' := g + 1) ho (by simp; omega))
    have hl6 : w3.heap.size < w6.heap.size := by have := hk.size; simp at this; omega
    obtain ⟨a2, k2, rfl, _⟩ := own_read HO2.out
    have cr6 := HG6.out.r
    clear cr5 p0 p1 p2 q0 q1 q2
    obtain ⟨p0, p1, p2, q0, q1, q2⟩ := c3_at HI6.out.c
    clear ho hr hk hgv
    go_wp2_with fail
    have hIR : IsR (w6.setCell ⟨w.heap.size, 2, none⟩ (.slice a2 (lC s).length k2)) g (sC s).t (sC s).f := (HI6.out.set2 _).r
    have HIR := Lib.hid hIR
    have cr7 := cell_far cr6 (show w1.heap.size ≠ w.heap.size by omega) 2 (.slice a2 (lC s).length k2)
    have hl7 : w1.heap.size < (w6.setCell ⟨w.heap.size, 2, none⟩ (.slice a2 (lC s).length k2)).heap.size := by simp; omega
    have HI7 := Lib.hid (HI6.out.set2 (.slice a2 (lC s).length k2))
    have HO7a := Lib.hid (own_set (c := w.heap.size) HO02.out (by omega) 2 (.slice a2 (lC s).length k2))
    have HO7b := Lib.hid (own_set (c := w.heap.size) HO12.out (by omega) 2 (.slice a2 (lC s).length k2))
    have HO7c := Lib.hid (own_set (c := w.heap.size) HO2.out (by omega) 2 (.slice a2 (lC s).length k2))
    refine (fine_any g _ _ _ hIR).mono ?_
    clear hIR p0 p1 p2 q0 q1 q2 cr6
    rintro e w7 ⟨rfl, hw7⟩
    rw [← hw7] at HIR cr7 hl7 HI7 HO7a HO7b HO7c
    clear hw7
    have hst : (sC s).t.size ≤ 140737488351232 := Nat.le_trans (Nat.le_trans (st4_le _ _) (nx_le _ _)) (by omega)
    cases hf : (sC s).f with
    | false =>
      have hfr : frmB s = false := by simp [frmB, hf]
      clear hf
      go_wp2_with fail
      refine (must_no _ _).mono ?_; rintro e w8 ⟨rfl, rfl⟩
      go_wp2
      exact get_door_err s w _ g _ _ _ _ _ HI7.out rfl rfl hfr
    | true =>
      have hir : IsR w7 g (sC s).t true := by rw [← hf]; exact HIR.out
      have hll : leftOf (sC s).t true = (sC s).t.size := rfl
      have HF := Lib.hid hf
      go_wp2_with fail
      refine (left_any g _ _ _ hir).mono ?_; rintro e w8 ⟨rfl, rfl⟩
      by_cases hz : (sC s).t.size = 0
      · have hfr : frmB s = true := by simp [frmB, hf, hz]
        have HFR := Lib.hid hfr
        have hz1 : ((leftOf (sC s).t true) == 0) = true := by rw [hll, hz]; rfl
        clear hf hz hfr hll hir
        go_wp2_with fail
        refine (must_yes _ _).mono ?_; rintro e w9 ⟨rfl, rfl⟩
        go_wp2_with fail
        have hgk : GK s w w9 g a0 k0 a1 k1 a2 k2 := ⟨HI7.out.c, HI7.out.e, HO7a.out, HO7b.out, HO7c.out, HI7.out.b, HI7.out.n⟩
        have hE := HI7.out.e
        have HGK := Lib.hid hgk.drew
        have HCK := Lib.hid fun (W : World) (h : GK s w W g a0 k0 a1 k1 a2 k2) => show Calls Try.prog 13 #[.agg #[.slice a0 (lP s).length k0, .slice a1 (lW s).length k1, .slice a2 (lC s).length k2]] W fun e w' => e = .returned (.int .i64 (ckE (rdC s))) ∧ Below W.heap.size W w' from check_any (rdC s) ⟨a0, k0, a1, k1, a2, k2⟩ W h.isC ⟨Nat.le_trans (lP_len s) (by decide), Nat.le_trans (lW_len s) (by decide), Nat.le_trans (lC_len s) (by decide)⟩
        have HFI := Lib.hid (show ckE (rdC s) = gtE s by simp [gtE, HFR.out])
        clear hgk
        go_region_held3 (fun W' => W'.cell? ⟨w.heap.size, 0, none⟩ = some (.slice a0 (lP s).length k0) ∧ W'.cell? ⟨w.heap.size, 1, none⟩ = some (.slice a1 (lW s).length k1) ∧ W'.cell? ⟨w.heap.size, 2, none⟩ = some (.slice a2 (lC s).length k2) ∧ W'.frozen? ⟨w.heap.size, 0, none⟩ = false ∧ W'.frozen? ⟨w.heap.size, 1, none⟩ = false ∧ W'.frozen? ⟨w.heap.size, 2, none⟩ = false)
          (with_reducible first | assumption | exact HGK.out.S.2 | exact (HGK.out.below hb).S.2 | exact ((HGK.out.below hb).again).S.2 | exact (HGK.out.again).S.2 | exact (((HGK.out.again).below hb)).S.2 | exact ((HGK.out.below hb).again).SE _ | exact ((HGK.out.again).below hb).SE _ | trace_state)
          (first | (go_at_call 13; refine (HCK.out _ (by first | exact HGK.out | exact HGK.out.again)).mono ?_; rintro e w10 ⟨rfl, hb⟩; first | (have e8 : w10.cell? ⟨w.heap.size + 1, 0, none⟩ = some (.int .i64 0) := (bk_cell (HGK.out.below hb).e 0).trans rfl; have f8 := bk_frozen (HGK.out.below hb).e 0) | (have e8 : w10.cell? ⟨w.heap.size + 1, 0, none⟩ = some (.int .i64 0) := (bk_cell (HGK.out.again.below hb).e 0).trans rfl; have f8 := bk_frozen (HGK.out.again.below hb).e 0)))
        · (try go_split_ands)
          go_wp2_with fail
          first
            | exact get_door_ret s w _ _ _ (((HGK.out.below hb).again).fin _ HFI.out) rfl rfl HFR.out
            | exact get_door_ret s w _ _ _ (((HGK.out.again).below hb).fin _ HFI.out) rfl rfl HFR.out
      · have hfr : frmB s = false := by simp [frmB, hf, hz]
        have hz1 : ((leftOf (sC s).t true) == 0) = false := by rw [hll]; exact beq_eq_false_iff_ne.2 (by omega)
        clear hf hz hll hir
        go_wp2_with fail
        refine (must_no _ _).mono ?_; rintro e w9 ⟨rfl, rfl⟩
        go_wp2
        exact get_door_err s w _ g _ _ _ _ _ HI7.out rfl rfl hfr
end Go.Proofs.Ythgoighpmnecbaa
namespace Go.Proofs.Ythgoighpmnecbaa
open Go.RowKit Go.Proofs.YthgoighpmnecbaaW.PrintWords
set_option linter.unusedVariables false
set_option linter.unusedSimpArgs false
/-- the document's reader in memory -/
def IsW (w : World) (g : Nat) (s : ByteArray) (a : Nat) (f : Bool) : Prop := w.heap[g]? = some (.cells #[.string s, .int .i64 a, .bool f] 88 (0, 0))
def tl (s : ByteArray) (a : Nat) : ByteArray := s.extract a s.size
def bare (w : World) : World := { w with heap := #[] }
theorem bare_below (w : World) : Below (bare w).heap.size (bare w) w := ⟨rfl, rfl, rfl, Nat.zero_le _, fun k hk => absurd hk (Nat.not_lt_zero _)⟩
theorem tl_size (s : ByteArray) (a : Nat) (h : a ≤ s.size) : (tl s a).size = s.size - a := by unfold tl; rw [ByteArray.size_extract]; omega
theorem tl_pre (s : ByteArray) (a n : Nat) (h : a + n ≤ s.size) : (tl s a).extract 0 n = s.extract a (a + n) := by
  unfold tl
  rw [ByteArray.extract_extract]
  congr 1 <;> omega
theorem tl_tl (s : ByteArray) (a n : Nat) (h : a + n ≤ s.size) : (tl s a).extract n (tl s a).size = tl s (a + n) := by
  rw [tl_size s a (by omega)]
  unfold tl
  rw [ByteArray.extract_extract]
  congr 1 <;> omega
def txA (s : ByteArray) (a : Nat) (f : Bool) (p : ByteArray) : Nat := if txF (tl s a) f p then a + p.size else a
theorem txS_tl (s : ByteArray) (a : Nat) (f : Bool) (p : ByteArray) (ha : a ≤ s.size) : txS (tl s a) f p = tl s (txA s a f p) := by
  unfold txS txA txF cutS
  cases f
  · simp
  · cases h : isPre (tl s a) p
    · simp
    · have := pre_le h
      rw [tl_size s a ha] at this
      simp [tl_tl s a p.size (by omega)]
theorem txA_le (s : ByteArray) (a : Nat) (f : Bool) (p : ByteArray) (ha : a ≤ s.size) : txA s a f p ≤ s.size := by
  unfold txA
  cases h : txF (tl s a) f p
  · simpa using ha
  · simp [txF] at h
    have := pre_le h.2
    rw [tl_size s a ha] at this
    simp
    omega
theorem rtext_f (s : ByteArray) (a : Nat) (f : Bool) (p : ByteArray) (ha : a ≤ s.size) (hs : s.size ≤ 100000) (hp : p.size ≤ 100000) :
    PText.prioryref05_Text.f s a f p = some (txF (tl s a) f p, s, ((txA s a f p : Nat) : Int), txF (tl s a) f p) := by
  have w1 : wrap64 ((s.size : Int) - a) = (s.size : Int) - a := by unfold wrap64; omega
  have w2 : wrap64 ((a : Int) + p.size) = ((a + p.size : Nat) : Int) := by unfold wrap64; omega
  cases f
  · simp [PText.prioryref05_Text.f, txF, txA]
  · unfold PText.prioryref05_Text.f
    rw [w1, w2, if_pos rfl]
    by_cases h : (s.size : Int) - a < p.size
    · have h2 : ¬ p.size ≤ s.size - a := by omega
      rw [if_pos h]
      simp [txF, txA, isPre, tl_size s a ha, h2]
    · have h2 : p.size ≤ s.size - a := by omega
      rw [if_neg h, if_pos (by omega), if_pos (by omega), if_pos (by omega)]
      simp only [Int.toNat_natCast, txF, txA, isPre, tl_size s a ha, h2, tl_pre s a p.size (by omega), Bool.true_and, decide_true]
      by_cases h3 : (s.extract a (a + p.size)).toList = p.toList
      · simp [h3]
      · simp [h3]
theorem rtext_any (g : Nat) (s : ByteArray) (a : Nat) (f : Bool) (p : ByteArray) (w : World) (h : IsW w g s a f) (ha : a ≤ s.size) (hs : s.size ≤ 100000) (hp : p.size ≤ 100000) :
    Calls Try.prog 54 #[.pointer (some ⟨g, 0, none⟩), .string p] w fun e w' => e = .returned (.bool (txF (tl s a) f p)) ∧ IsW w' g s (txA s a f p) (txF (tl s a) f p) ∧ Kept g w w' := by
  refine (PText.prioryref05_Text.calls g s a f p _ _ _ _ (bare w) w ⟨h, Nat.zero_le _⟩ (bare_below w) (rtext_f s a f p ha hs hp)).mono ?_
  rintro e w' ⟨rfl, h1, h2, h3⟩
  exact ⟨rfl, h1.1, ⟨h2.os, h2.tape, h2.output, h3.1, fun k hk hg => h3.2 k hk hg (by simp)⟩⟩
def nmA (s : ByteArray) (a : Nat) (f : Bool) (n : Int) : Nat := if nOk (tl s a) f n then a + n.toNat else a
theorem nS_tl (s : ByteArray) (a : Nat) (f : Bool) (n : Int) (ha : a ≤ s.size) : nS (tl s a) f n = tl s (nmA s a f n) := by
  unfold nS nmA
  cases h : nOk (tl s a) f n
  · simp
  · simp [nOk, tl_size s a ha] at h
    simp [tl_tl s a n.toNat (by omega)]
theorem nmA_le (s : ByteArray) (a : Nat) (f : Bool) (n : Int) (ha : a ≤ s.size) : nmA s a f n ≤ s.size := by
  unfold nmA
  cases h : nOk (tl s a) f n
  · simpa using ha
  · simp [nOk, tl_size s a ha] at h
    simp
    omega
theorem bt_tl (s : ByteArray) (a i : Nat) (h : a + i < s.size) : bt s ((a + i : Nat) : Int) = ((tl s a).data.toList.getD i 0).toNat := by
  have h1 : ((a + i : Nat) : Int).toNat = a + i := Int.toNat_natCast _
  unfold bt
  rw [dif_pos (by rw [h1]; exact h)]
  have hk : i < (tl s a).data.toList.length := by
    have := tl_size s a (by omega)
    simp only [ByteArray.size_data, Array.length_toList]
    omega
  rw [List.getD_eq_getElem?_getD, List.getElem?_eq_getElem hk]
  simp only [h1, Array.getElem_toList, Option.getD_some]
  unfold tl
  simp [ByteArray.data_extract]
  rfl
theorem take_be (l : List UInt8) : ∀ (k : Nat), k ≤ l.length → be (l.take (k + 1)) = if k < l.length then be (l.take k) * 256 + ((l.getD k 0).toNat : Int) else be l := by
  intro k hk
  by_cases h : k < l.length
  · rw [if_pos h, List.take_succ_eq_append_getElem h, be_snoc, List.getD_eq_getElem?_getD, List.getElem?_eq_getElem h]
    rfl
  · rw [if_neg h, List.take_of_length_le (by omega)]
theorem rnum_l (s : ByteArray) (a n : Nat) (f : Bool) (ha : a + n ≤ s.size) (hs : s.size ≤ 100000) (hn : n ≤ 4) :
    ∀ (m i : Nat), i + m = n → PNum.prioryref05_Num.l0 (m + 1) n (be ((tl s a).data.toList.take i)) i s a f = some (be ((tl s a).data.toList.take n), s, ((a + n : Nat) : Int), f)
  | 0, i, h => by
    have : i = n := by omega
    subst this
    have w1 : wrap64 ((a : Int) + i) = ((a + i : Nat) : Int) := by unfold wrap64; omega
    simp [PNum.prioryref05_Num.l0, w1]
  | m + 1, i, h => by
    have ih := rnum_l s a n f ha hs hn m (i + 1) (by omega)
    have w1 : wrap64 ((a : Int) + i) = ((a + i : Nat) : Int) := by unfold wrap64; omega
    have w2 : wrap64 ((i : Int) + 1) = ((i + 1 : Nat) : Int) := by unfold wrap64; omega
    have hlen : i < (tl s a).data.toList.length := by
      have := tl_size s a (by omega)
      simp only [ByteArray.size_data, Array.length_toList]
      omega
    have hb : be ((tl s a).data.toList.take i) < 16777216 := be_small (k := i) (by rw [List.length_take]; omega) (by omega)
    have hb0 := (be_bound ((tl s a).data.toList.take i)).1
    have hc := ((tl s a).data.toList.getD i 0).toNat_lt
    have e : (((be ((tl s a).data.toList.take i) * 256) % 4294967296) + ((bt s ((a + i : Nat) : Int)) % 4294967296)) % 4294967296 = be ((tl s a).data.toList.take (i + 1)) := by
      rw [take_be _ i (by omega), if_pos hlen, bt_tl s a i (by omega)]
      omega
    rw [PNum.prioryref05_Num.l0, w1, w2, e, if_pos (by omega), if_pos (by omega), if_pos (by omega)]
    exact ih
theorem rnum_f (s : ByteArray) (a : Nat) (f : Bool) (n : Int) (ha : a ≤ s.size) (hs : s.size ≤ 100000) :
    PNum.prioryref05_Num.f 6 s a f n = some (nV (tl s a) f n, s, ((nmA s a f n : Nat) : Int), nOk (tl s a) f n) := by
  have w1 : wrap64 ((s.size : Int) - a) = (s.size : Int) - a := by unfold wrap64; omega
  cases f
  · simp [PNum.prioryref05_Num.f, PNum.prioryref05_Num.j0, nV, nmA, nOk]
  · unfold PNum.prioryref05_Num.f
    rw [if_pos rfl, w1]
    by_cases h1 : n < 1
    · have : ¬ 1 ≤ n := by omega
      rw [if_pos h1]
      simp [PNum.prioryref05_Num.j0, nV, nmA, nOk, this]
    by_cases h2 : n > 4
    · have : ¬ n ≤ 4 := by omega
      rw [if_neg h1, if_pos h2]
      simp [PNum.prioryref05_Num.j0, nV, nmA, nOk, this]
    rw [if_neg h1, if_neg h2]
    by_cases h3 : (s.size : Int) - a < n
    · have : ¬ n ≤ ((s.size - a : Nat) : Int) := by omega
      simp [PNum.prioryref05_Num.j0, nV, nmA, nOk, h3, tl_size s a ha, this]
    · obtain ⟨k, rfl⟩ : ∃ k : Nat, n = k := ⟨n.toNat, by omega⟩
      have hok : nOk (tl s a) true k = true := by simp [nOk, tl_size s a ha]; omega
      have hl := rnum_l s a k true (by omega) hs (by omega) k 0 (by omega)
      have hmono : ∀ j, k + 1 ≤ j → PNum.prioryref05_Num.l0 j k 0 0 s a true = some (be ((tl s a).data.toList.take k), s, ((a + k : Nat) : Int), true) := by
        intro j hj
        induction j with
        | zero => omega
        | succ j ih =>
          by_cases h : k + 1 ≤ j
          · exact (PNum.prioryref05_Num.mono_l j).2 _ _ _ _ _ _ _ (ih h)
          · have : j = k := by omega
            subst this
            exact hl
      simp only [PNum.prioryref05_Num.j0, h3, decide_false, Bool.false_eq_true, if_false]
      rw [hmono 5 (by omega)]
      simp [nV, nmA, hok]
theorem rnum_any (g : Nat) (s : ByteArray) (a : Nat) (f : Bool) (n : Int) (w : World) (h : IsW w g s a f) (ha : a ≤ s.size) (hs : s.size ≤ 100000) :
    Calls Try.prog 55 #[.pointer (some ⟨g, 0, none⟩), .int .i64 n] w fun e w' => e = .returned (.int .u32 (nV (tl s a) f n)) ∧ IsW w' g s (nmA s a f n) (nOk (tl s a) f n) ∧ Kept g w w' := by
  refine (PNum.prioryref05_Num.calls 6 g s a f n _ _ _ _ (bare w) w ⟨h, Nat.zero_le _⟩ (bare_below w) (rnum_f s a f n ha hs)).mono ?_
  rintro e w' ⟨rfl, h1, h2, h3⟩
  exact ⟨rfl, h1.1, ⟨h2.os, h2.tape, h2.output, h3.1, fun k hk hg => h3.2 k hk hg (by simp)⟩⟩
end Go.Proofs.Ythgoighpmnecbaa
namespace Go.Proofs.Ythgoighpmnecbaa
open Go.RowKit
set_option linter.unusedVariables false
set_option linter.unusedSimpArgs false
/-- the document's reader in memory, in a state -/
def RW (w : World) (g : Nat) (s : ByteArray) (t : St) : Prop := ∃ a : Nat, a ≤ s.size ∧ t.t = tl s a ∧ IsW w g s a t.f
theorem RW.kept {w w' : World} {g k : Nat} {s : ByteArray} {t : St} (h : RW w g s t) (hk : Kept k w w') (hg : g ≠ k) : RW w' g s t := by
  obtain ⟨a, h1, h2, h3⟩ := h
  exact ⟨a, h1, h2, hk.blk h3 hg⟩
theorem RW.lt {w : World} {g : Nat} {s : ByteArray} {t : St} (h : RW w g s t) : g < w.heap.size := by
  obtain ⟨a, h1, h2, h3⟩ := h
  exact bk_lt h3
theorem rnumS (g : Nat) (s : ByteArray) (t : St) (n : Int) (w : World) (h : RW w g s t) (hs : s.size ≤ 100000) :
    Calls Try.prog 55 #[.pointer (some ⟨g, 0, none⟩), .int .i64 n] w fun e w' => e = .returned (.int .u32 (nv t n)) ∧ RW w' g s (nx t n) ∧ Kept g w w' := by
  obtain ⟨a, h1, h2, h3⟩ := h
  obtain ⟨tt, tf⟩ := t
  simp only at h2 h3
  subst h2
  refine (rnum_any g s a tf n w h3 h1 hs).mono ?_
  rintro e w' ⟨rfl, k1, k2⟩
  exact ⟨rfl, ⟨nmA s a tf n, nmA_le s a tf n h1, nS_tl s a tf n h1, k1⟩, k2⟩
theorem tl_zero (s : ByteArray) : tl s 0 = s := by
  unfold tl
  simp
theorem rtextS (g : Nat) (s p : ByteArray) (w : World) (h : IsW w g s 0 true) (hs : s.size ≤ 100000) (hp : p.size ≤ 100000) :
    Calls Try.prog 54 #[.pointer (some ⟨g, 0, none⟩), .string p] w fun e w' => e = .returned (.bool (txF s true p)) ∧ RW w' g s ⟨txS s true p, txF s true p⟩ ∧ Kept g w w' := by
  refine (rtext_any g s 0 true p w h (Nat.zero_le _) hs hp).mono ?_
  have e1 := txS_tl s 0 true p (Nat.zero_le _)
  have e2 := txA_le s 0 true p (Nat.zero_le _)
  rw [tl_zero] at *
  rintro e w' ⟨rfl, k1, k2⟩
  exact ⟨rfl, ⟨txA s 0 true p, e2, e1, k1⟩, k2⟩
/-- the document's Get, under way -/
structure RI (s : ByteArray) (w W : World) (t : St) (v0 v1 v2 : Value) : Prop where
  z : W.heap[w.heap.size]? = some (.cells no3 26 (0, 0))
  c : W.heap[w.heap.size + 1]? = some (.cells #[v0, v1, v2] 26 (0, 0))
  r : RW W (w.heap.size + 1 + 1) s t
  b : Below w.heap.size w W
section
variable {s : ByteArray} {w W W' : World} {t t' : St} {v0 v1 v2 : Value}
theorem RI.kept (h : RI s w W t v0 v1 v2) (k : Kept (w.heap.size + 1 + 1) W W') (r : RW W' (w.heap.size + 1 + 1) s t') : RI s w W' t' v0 v1 v2 :=
  ⟨k.blk h.z (by omega), k.blk h.c (by omega), r, k.below h.b (by omega) h.b.size⟩
theorem RI.app (h : RI s w W t v0 v1 v2) (hb : Below (w.heap.size + 1 + 1 + 1) W W') : RI s w W' t v0 v1 v2 := by
  obtain ⟨a, h1, h2, h3⟩ := h.r
  exact ⟨(hb.block _ (by omega)).trans h.z, (hb.block _ (by omega)).trans h.c, ⟨a, h1, h2, (hb.block _ (by omega)).trans h3⟩, h.b.trans (hb.mono (by omega))⟩
theorem RI.set0 (h : RI s w W t v0 v1 v2) (x : Value) : RI s w (W.setCell ⟨w.heap.size + 1, 0, none⟩ x) t x v1 v2 := by
  obtain ⟨a, h1, h2, h3⟩ := h.r
  exact ⟨bk_far h.z (by show w.heap.size ≠ w.heap.size + 1; omega) x, bk_set h.c 0 x, ⟨a, h1, h2, bk_far h3 (by show w.heap.size + 1 + 1 ≠ w.heap.size + 1; omega) x⟩, h.b.setCell (p := ⟨w.heap.size + 1, 0, none⟩) (by show w.heap.size ≤ w.heap.size + 1; omega) x⟩
theorem RI.set1 (h : RI s w W t v0 v1 v2) (x : Value) : RI s w (W.setCell ⟨w.heap.size + 1, 1, none⟩ x) t v0 x v2 := by
  obtain ⟨a, h1, h2, h3⟩ := h.r
  exact ⟨bk_far h.z (by show w.heap.size ≠ w.heap.size + 1; omega) x, bk_set h.c 1 x, ⟨a, h1, h2, bk_far h3 (by show w.heap.size + 1 + 1 ≠ w.heap.size + 1; omega) x⟩, h.b.setCell (p := ⟨w.heap.size + 1, 1, none⟩) (by show w.heap.size ≤ w.heap.size + 1; omega) x⟩
theorem RI.set2 (h : RI s w W t v0 v1 v2) (x : Value) : RI s w (W.setCell ⟨w.heap.size + 1, 2, none⟩ x) t v0 v1 x := by
  obtain ⟨a, h1, h2, h3⟩ := h.r
  exact ⟨bk_far h.z (by show w.heap.size ≠ w.heap.size + 1; omega) x, bk_set h.c 2 x, ⟨a, h1, h2, bk_far h3 (by show w.heap.size + 1 + 1 ≠ w.heap.size + 1; omega) x⟩, h.b.setCell (p := ⟨w.heap.size + 1, 2, none⟩) (by show w.heap.size ≤ w.heap.size + 1; omega) x⟩
theorem RI.fine (h : RI s w W t v0 v1 v2) : W.cell? ⟨w.heap.size + 1 + 1, 2, none⟩ = some (.bool t.f) := by
  obtain ⟨a, h1, h2, h3⟩ := h.r
  exact (bk_cell h3 2).trans rfl
theorem RI.lt (h : RI s w W t v0 v1 v2) : w.heap.size + 1 + 1 < W.heap.size := h.r.lt
/-- an own row of another type stays, where one grows -/
theorem own_grown {B B' e e' k k' n n' : Nat} {v v' : Value} {zs zs' : List Value} (h : W.ownsRow B e k v n zs) (h' : W.ownsRow B' e' k' v' n' zs') (he : e ≠ e') (hg : W.grownBy W' v'.ownBlock) : W'.ownsRow B e k v n zs := by
  obtain ⟨h0, h⟩ := h
  refine ⟨h0, ?_⟩
  rcases h with h | ⟨b, cap, cur, e1, hb1, hg1, rest⟩
  · exact .inl h
  · refine .inr ⟨b, cap, cur, e1, hb1, (hg.block b (bk_lt hg1) (fun eb => ?_)).trans hg1, rest⟩
    obtain ⟨_, h'⟩ := h'
    rcases h' with ⟨rfl, _⟩ | ⟨b2, cap2, cur2, rfl, _, hg2, _⟩
    · cases eb
    · simp only [Value.ownBlock, Option.some.injEq] at eb
      subst eb
      rw [hg2] at hg1
      simp only [Option.some.injEq, Obj.cells.injEq] at hg1
      exact he hg1.2.1.symm
end
/-- the end: what stands in the result's block is answered -/
theorem rg_end (s : ByteArray) (w V : World) (tmps : Array Value) (x y z : Value) (n : Int) (h2 : tmps.getD 2 undef = .pointer (some ⟨w.heap.size, 0, none⟩)) (h3 : tmps.getD 3 undef = .int .i64 n) (hc : V.heap[w.heap.size]? = some (.cells #[x, y, z] 26 (0, 0)))
    (hR : GetR s w (.returned (.tuple #[.agg #[x, y, z], .int .i64 n])) V) : bodyPost Try.prog Try.f20 (GetR s w) Exit.ret { tmps := tmps, defers := [] } V := by
  have hres := res_ct (P := Try.prog) (fn := Try.f20) (p := 2) (u := 3) (ty := 26) rfl tmps V w.heap.size _ _ _ _ h2 hc Try.underlying26 rfl (by kernel_rfl)
  rw [h3] at hres
  exact bodyPost_ret hres rfl hR
theorem rg_bad (s : ByteArray) (w W : World) (tmps : Array Value) (n : Int) (h2 : tmps.getD 2 undef = .pointer (some ⟨w.heap.size, 0, none⟩)) (h3 : tmps.getD 3 undef = .int .i64 n) (hz : W.heap[w.heap.size]? = some (.cells no3 26 (0, 0))) (hB : Below w.heap.size w W)
    (hE : gtE s = n) (hC : gtC s = noC) : bodyPost Try.prog Try.f20 (GetR s w) Exit.ret { tmps := tmps, defers := [] } (((W.setCell ⟨w.heap.size, 0, none⟩ (.slice none 0 0)).setCell ⟨w.heap.size, 1, none⟩ (.slice none 0 0)).setCell ⟨w.heap.size, 2, none⟩ (.slice none 0 0)) := by
  refine rg_end s w _ tmps _ _ _ n h2 h3 (setc3 hz _ _ _) ?_
  unfold GetR
  rw [hE, hC]
  exact ⟨⟨none, 0, none, 0, none, 0⟩, rfl, noC_is _, ((hB.setCell (p := ⟨w.heap.size, 0, none⟩) (Nat.le_refl _) _).setCell (p := ⟨w.heap.size, 1, none⟩) (Nat.le_refl _) _).setCell (p := ⟨w.heap.size, 2, none⟩) (Nat.le_refl _) _⟩
set_option maxRecDepth 100000 in
set_option maxHeartbeats 4000000 in
theorem rget_any (s : ByteArray) (w : World) (hs : s.size ≤ 100000) :
    Calls Try.prog 20 #[.string s] w (GetR s w) := by
  go_enter Try.func20, Try.ntmps20
  go_wp2_with fail
  have hR0 : IsW (((w.alloc (.cells #[.slice none 0 0, .slice none 0 0, .slice none 0 0] 26)).alloc (.cells #[.slice none 0 0, .slice none 0 0, .slice none 0 0] 26)).alloc (.cells #[.string s, .int .i64 0, .bool true] 88)) (w.heap.size + 1 + 1) s 0 true := by
    have := bk_new ((w.alloc (.cells #[.slice none 0 0, .slice none 0 0, .slice none 0 0] 26)).alloc (.cells #[.slice none 0 0, .slice none 0 0, .slice none 0 0] 26)) (.cells #[.string s, .int .i64 0, .bool true] 88)
    simpa [World.size_alloc, IsW] using this
  have hZ0 : (((w.alloc (.cells #[.slice none 0 0, .slice none 0 0, .slice none 0 0] 26)).alloc (.cells #[.slice none 0 0, .slice none 0 0, .slice none 0 0] 26)).alloc (.cells #[.string s, .int .i64 0, .bool true] 88)).heap[w.heap.size]? = some (.cells no3 26 (0, 0)) := bk_alloc (bk_alloc (bk_new w _) _) _
  have hC0 : (((w.alloc (.cells #[.slice none 0 0, .slice none 0 0, .slice none 0 0] 26)).alloc (.cells #[.slice none 0 0, .slice none 0 0, .slice none 0 0] 26)).alloc (.cells #[.string s, .int .i64 0, .bool true] 88)).heap[w.heap.size + 1]? = some (.cells #[.slice none 0 0, .slice none 0 0, .slice none 0 0] 26 (0, 0)) := by
    have := bk_new (w.alloc (.cells #[.slice none 0 0, .slice none 0 0, .slice none 0 0] 26)) (.cells #[.slice none 0 0, .slice none 0 0, .slice none 0 0] 26)
    rw [World.size_alloc] at this
    exact bk_alloc this _
  have HN := Lib.hid fun (t : St) (n : Int) (W : World) (h : RW W (w.heap.size + 1 + 1) s t) => rnumS (w.heap.size + 1 + 1) s t n W h hs
  refine (rtextS _ s ⟨#[80, 82, 49]⟩ _ hR0 hs (by decide)).mono ?_; rintro e w1 ⟨rfl, h1, k1⟩
  have HI1 := Lib.hid (show RI s w w1 (sH s) (.slice none 0 0) (.slice none 0 0) (.slice none 0 0) from ⟨k1.blk hZ0 (by omega), k1.blk hC0 (by omega), h1, k1.below (by go_grown) (by omega) (by simp; omega)⟩)
  clear hR0 hZ0 hC0 h1 k1
  go_wp2_with fail
  refine (HN.out _ 1 _ HI1.out.r).mono ?_; rintro e w2 ⟨rfl, h2, k2⟩
  have HI2 := Lib.hid (HI1.out.kept k2 h2)
  clear h2 k2
  have hnb := nv1_bd (sH s)
  obtain ⟨n, hn⟩ : ∃ n : Nat, nv (sH s) 1 = n := ⟨(nv (sH s) 1).toNat, by omega⟩
  have hw : IntKind.i64.wrap (nv (sH s) 1) = n := by rw [IntKind.wrap_i64]; omega
  rw [hn] at hw hnb
  have hP : el2 2 1 n (nx (sH s) 1) = lP s := by unfold lP; rw [hn]; rfl
  have hS : st2 2 1 n (nx (sH s) 1) = sP s := by unfold sP; rw [hn]; rfl
  have HPP := Lib.hid hP
  have HSS := Lib.hid hS
  rw [hn]
  clear hn hP hS
  go_upto_block 0 with fail
  go_cut [7, 8, 9] from 24 to 44 (fun _ _ _ wx => ∃ v, RI s w wx (sP s) v (.slice none 0 0) (.slice none 0 0) ∧ wx.ownsRow (w.heap.size + 1 + 1 + 1) 41 2 v (lP s).length (val2 (lP s)))
  case first =>
    go_wp2_with fail
    go_loopw [7] (fun iv W' => ∃ (i k : Nat) (acc : List (Int × Int)) (t : St) (v : Value), iv = .int .i64 i ∧ i + k = n ∧ acc ++ el2 2 1 k t = lP s ∧ st2 2 1 k t = sP s ∧ RI s w W' t v (.slice none 0 0) (.slice none 0 0) ∧ W'.ownsRow (w.heap.size + 1 + 1 + 1) 41 2 v acc.length (val2 acc)) (fun iv _ => n - (intOf iv).toNat)
    case atStart => exact ⟨0, n, [], nx (sH s) 1, _, rfl, by omega, HPP.out, HSS.out, HI2.out, own_nil⟩
    case round =>
      obtain ⟨i, k, acc, t, v, rfl, hik, hacc, hst, hI, ho⟩ := hrel
      have HA := Lib.hid hacc
      have HS := Lib.hid hst
      have HI := Lib.hid hI
      have HO := Lib.hid ho
      have hlt := hI.lt
      have hfin := hI.fine
      clear hacc hst hI ho
      by_cases h0 : k = 0
      · subst h0
        have hin : ¬ (i : Int) < n := by omega
        have e1 : acc = lP s := by simpa [el2] using HA.out
        have e2 : t = sP s := by simpa [st2] using HS.out
        go_wp2_with fail
        go_meet
        exact ⟨v, by rw [← e2]; exact HI.out, by rw [← e1]; exact HO.out⟩
      · have hin : (i : Int) < n := by omega
        obtain ⟨j, rfl⟩ := Nat.exists_eq_succ_of_ne_zero h0
        cases hf : t.f with
        | false =>
          rw [hf] at hfin
          have e1 : acc = lP s := by have := HA.out; simpa [el2, hf] using this
          have e2 : t = sP s := by have := HS.out; simpa [st2, hf] using this
          clear hf
          go_wp2_with fail
          go_meet
          exact ⟨v, by rw [← e2]; exact HI.out, by rw [← e1]; exact HO.out⟩
        | true =>
          rw [hf] at hfin
          have e1 : (acc ++ [(nv t 2, nv (nx t 2) 1)]) ++ el2 2 1 j (nx2 t 2 1) = lP s := by
            have := HA.out
            simpa [el2, hf] using this
          have e2 : st2 2 1 j (nx2 t 2 1) = sP s := by
            have := HS.out
            simpa [st2, hf] using this
          have hal : acc.length ≤ 255 := by
            have h3 := congrArg List.length e1
            simp only [List.length_append, List.length_cons, List.length_nil] at h3
            have := lP_len s
            omega
          have E1 := Lib.hid e1
          have E2 := Lib.hid e2
          have hq0 : IntKind.i64.wrap (nv t 2) = nv t 2 := by have := nv_bd t 2; rw [IntKind.wrap_i64]; omega
          have hq1 : IntKind.i64.wrap (nv (nx t 2) 1) = nv (nx t 2) 1 := by have := nv_bd (nx t 2) 1; rw [IntKind.wrap_i64]; omega
          clear hf e1 e2 h0 HA HS
          go_wp2_with fail
          refine (HN.out t 2 _ HI.out.r).mono ?_; rintro e w3a ⟨rfl, h3, k3⟩
          have HIa := Lib.hid (show RI s w w3a (nx t 2) v (.slice none 0 0) (.slice none 0 0) from HI.out.kept k3 h3)
          have HOa := Lib.hid (own_kept HO.out k3 (by omega))
          clear h3 k3
          go_wp2_with fail
          refine (HN.out (nx t 2) 1 _ HIa.out.r).mono ?_; rintro e w3b ⟨rfl, h3, k3⟩
          have HIb := Lib.hid (show RI s w w3b (nx (nx t 2) 1) v (.slice none 0 0) (.slice none 0 0) from HIa.out.kept k3 h3)
          have HOb := Lib.hid (own_kept HOa.out k3 (by omega))
          clear h3 k3
          have HI4 := Lib.hid (show RI s w w3b (nx2 t 2 1) v (.slice none 0 0) (.slice none 0 0) from HIb.out)
          have c0 : w3b.cell? ⟨w.heap.size + 1, 0, none⟩ = some v := (bk_cell HI4.out.c 0).trans rfl
          have hl4 := HI4.out.lt
          have hsl : SlF (w3b.alloc (.cells #[.int .i64 (nv t 2), .int .i64 (nv (nx t 2) 1)] 41)) 2 (some ⟨w3b.heap.size, 0, none⟩) 1 (one2 (nv t 2) (nv (nx t 2) 1)) := by
            refine .inr ⟨w3b.heap.size, 0, rfl, fun i hi r hr => ?_⟩
            obtain rfl : i = 0 := by omega
            rcases (show r = 0 ∨ r = 1 by omega) with rfl | rfl
            · exact (bk_cell (bk_new w3b _) 0).trans rfl
            · exact (bk_cell (bk_new w3b _) 1).trans rfl
          have HSL := Lib.hid hsl
          clear hsl
          go_wp2_with (at_builtin; refine appF rfl _ _ _ rfl keP v acc.length (val2 acc) (by rfl) (by exact own_kept (g := w.heap.size + 1 + 1) HOb.out ((Kept.refl _ _).allocd _) (by omega)) (some ⟨w3b.heap.size, 0, none⟩) 1 1 (one2 (nv t 2) (nv (nx t 2) 1)) (by rfl) (fun e => by cases e) (by exact HSL.out) (fun i r hr => by unfold one2; split <;> rfl) (by omega) ?c2 ?c1)
          case c2 => simp; omega
          case c1 =>
            intro v' w5 ho5 hb5 hg5
            have HI5 := Lib.hid ((HI4.out.kept ((Kept.refl _ _).allocd _) (HI4.out.r.kept (k := w3b.heap.size) ((Kept.refl _ _).allocd _) (by omega))).app hb5)
            have HO5 := Lib.hid (show w5.ownsRow (w.heap.size + 1 + 1 + 1) 41 2 v' (acc.length + 1) (val2 (acc ++ [(nv t 2, nv (nx t 2) 1)])) by rw [flat_one2] at ho5; rw [val2_snoc]; exact ho5)
            obtain ⟨a5, k5, rfl, _⟩ := own_read HO5.out
            have hl5 := HI5.out.lt
            obtain ⟨p0, p1, p2, q0, q1, q2⟩ := c3_at HI5.out.c
            clear ho5 hb5 hg5 c0
            go_wp2_with fail
            exact ⟨⟨i + 1, j, acc ++ [(nv t 2, nv (nx t 2) 1)], nx2 t 2 1, _, by go_num, by omega, E1.out, E2.out, HI5.out.set0 _, by rw [List.length_append]; exact own_set (c := w.heap.size + 1) HO5.out (by omega) _ _⟩, by simp [intOf]; omega⟩
  case rest =>
    obtain ⟨v0, hI, ho⟩ := hcut
    have HO0 := Lib.hid ho
    have HJ0 := Lib.hid hI
    have hlr0 := hI.lt
    clear hI ho HI2 HPP HSS hw hnb
    go_wp2_with fail
    refine (HN.out _ 1 _ HJ0.out.r).mono ?_; rintro e w2 ⟨rfl, h2, k2⟩
    have HI2 := Lib.hid (HJ0.out.kept k2 h2)
    have HO0a := Lib.hid (own_kept HO0.out k2 (by omega))
    clear h2 k2 HO0 HJ0
    have HO0 := HO0a
    clear HO0a
    have hnb := nv1_bd (sP s)
    obtain ⟨n, hn⟩ : ∃ n : Nat, nv (sP s) 1 = n := ⟨(nv (sP s) 1).toNat, by omega⟩
    have hw : IntKind.i64.wrap (nv (sP s) 1) = n := by rw [IntKind.wrap_i64]; omega
    rw [hn] at hw hnb
    have hP : el2 1 1 n (nx (sP s) 1) = lW s := by unfold lW; rw [hn]; rfl
    have hS : st2 1 1 n (nx (sP s) 1) = sW s := by unfold sW; rw [hn]; rfl
    have HPP := Lib.hid hP
    have HSS := Lib.hid hS
    rw [hn]
    clear hn hP hS
    go_upto_block 2 with fail
    go_cut [10, 11, 12] from 47 to 67 (fun _ _ _ wx => ∃ v, RI s w wx (sW s) v0 v (.slice none 0 0) ∧ wx.ownsRow (w.heap.size + 1 + 1 + 1) 41 2 v0 (lP s).length (val2 (lP s)) ∧ wx.ownsRow (w.heap.size + 1 + 1 + 1) 44 2 v (lW s).length (val2 (lW s)))
    case first =>
      go_wp2_with fail
      go_loopw [10] (fun iv W' => ∃ (i k : Nat) (acc : List (Int × Int)) (t : St) (v : Value), iv = .int .i64 i ∧ i + k = n ∧ acc ++ el2 1 1 k t = lW s ∧ st2 1 1 k t = sW s ∧ RI s w W' t v0 v (.slice none 0 0) ∧ W'.ownsRow (w.heap.size + 1 + 1 + 1) 41 2 v0 (lP s).length (val2 (lP s)) ∧ W'.ownsRow (w.heap.size + 1 + 1 + 1) 44 2 v acc.length (val2 acc)) (fun iv _ => n - (intOf iv).toNat)
      case atStart => exact ⟨0, n, [], nx (sP s) 1, _, rfl, by omega, HPP.out, HSS.out, HI2.out, HO0.out, own_nil⟩
      case round =>
        obtain ⟨i, k, acc, t, v, rfl, hik, hacc, hst, hI, ho0, ho⟩ := hrel
        have HA := Lib.hid hacc
        have HS := Lib.hid hst
        have HI := Lib.hid hI
        have HR0 := Lib.hid ho0
        have HO := Lib.hid ho
        have hlt := hI.lt
        have hfin := hI.fine
        clear hacc hst hI ho0 ho
        by_cases h0 : k = 0
        · subst h0
          have hin : ¬ (i : Int) < n := by omega
          have e1 : acc = lW s := by simpa [el2] using HA.out
          have e2 : t = sW s := by simpa [st2] using HS.out
          go_wp2_with fail
          go_meet
          exact ⟨v, by rw [← e2]; exact HI.out, HR0.out, by rw [← e1]; exact HO.out⟩
        · have hin : (i : Int) < n := by omega
          obtain ⟨j, rfl⟩ := Nat.exists_eq_succ_of_ne_zero h0
          cases hf : t.f with
          | false =>
            rw [hf] at hfin
            have e1 : acc = lW s := by have := HA.out; simpa [el2, hf] using this
            have e2 : t = sW s := by have := HS.out; simpa [st2, hf] using this
            clear hf
            go_wp2_with fail
            go_meet
            exact ⟨v, by rw [← e2]; exact HI.out, HR0.out, by rw [← e1]; exact HO.out⟩
          | true =>
            rw [hf] at hfin
            have e1 : (acc ++ [(nv t 1, nv (nx t 1) 1)]) ++ el2 1 1 j (nx2 t 1 1) = lW s := by
              have := HA.out
              simpa [el2, hf] using this
            have e2 : st2 1 1 j (nx2 t 1 1) = sW s := by
              have := HS.out
              simpa [st2, hf] using this
            have hal : acc.length ≤ 255 := by
              have h3 := congrArg List.length e1
              simp only [List.length_append, List.length_cons, List.length_nil] at h3
              have := lW_len s
              omega
            have E1 := Lib.hid e1
            have E2 := Lib.hid e2
            have hq0 : IntKind.i64.wrap (nv t 1) = nv t 1 := by have := nv_bd t 1; rw [IntKind.wrap_i64]; omega
            have hq1 : IntKind.i64.wrap (nv (nx t 1) 1) = nv (nx t 1) 1 := by have := nv_bd (nx t 1) 1; rw [IntKind.wrap_i64]; omega
            clear hf e1 e2 h0 HA HS
            go_wp2_with fail
            refine (HN.out t 1 _ HI.out.r).mono ?_; rintro e w3a ⟨rfl, h3, k3⟩
            have HIa := Lib.hid (show RI s w w3a (nx t 1) v0 v (.slice none 0 0) from HI.out.kept k3 h3)
            have HOa := Lib.hid (own_kept HO.out k3 (by omega))
            have HR0a := Lib.hid (own_kept HR0.out k3 (by omega))
            clear h3 k3
            go_wp2_with fail
            refine (HN.out (nx t 1) 1 _ HIa.out.r).mono ?_; rintro e w3b ⟨rfl, h3, k3⟩
            have HIb := Lib.hid (show RI s w w3b (nx (nx t 1) 1) v0 v (.slice none 0 0) from HIa.out.kept k3 h3)
            have HOb := Lib.hid (own_kept HOa.out k3 (by omega))
            have HR0b := Lib.hid (own_kept HR0a.out k3 (by omega))
            clear h3 k3
            have HI4 := Lib.hid (show RI s w w3b (nx2 t 1 1) v0 v (.slice none 0 0) from HIb.out)
            have c0 : w3b.cell? ⟨w.heap.size + 1, 1, none⟩ = some v := (bk_cell HI4.out.c 1).trans rfl
            have hl4 := HI4.out.lt
            have hsl : SlF (w3b.alloc (.cells #[.int .i64 (nv t 1), .int .i64 (nv (nx t 1) 1)] 44)) 2 (some ⟨w3b.heap.size, 0, none⟩) 1 (one2 (nv t 1) (nv (nx t 1) 1)) := by
              refine .inr ⟨w3b.heap.size, 0, rfl, fun i hi r hr => ?_⟩
              obtain rfl : i = 0 := by omega
              rcases (show r = 0 ∨ r = 1 by omega) with rfl | rfl
              · exact (bk_cell (bk_new w3b _) 0).trans rfl
              · exact (bk_cell (bk_new w3b _) 1).trans rfl
            have HSL := Lib.hid hsl
            clear hsl
            go_wp2_with (at_builtin; refine appF rfl _ _ _ rfl keW v acc.length (val2 acc) (by rfl) (by exact own_kept (g := w.heap.size + 1 + 1) HOb.out ((Kept.refl _ _).allocd _) (by omega)) (some ⟨w3b.heap.size, 0, none⟩) 1 1 (one2 (nv t 1) (nv (nx t 1) 1)) (by rfl) (fun e => by cases e) (by exact HSL.out) (fun i r hr => by unfold one2; split <;> rfl) (by omega) ?c2 ?c1)
            case c2 => simp; omega
            case c1 =>
              intro v' w5 ho5 hb5 hg5
              have HI5 := Lib.hid ((HI4.out.kept ((Kept.refl _ _).allocd _) (HI4.out.r.kept (k := w3b.heap.size) ((Kept.refl _ _).allocd _) (by omega))).app hb5)
              have HR0z := Lib.hid (own_grown (own_kept (g := w.heap.size + 1 + 1) HR0b.out ((Kept.refl _ _).allocd _) (by omega)) (own_kept (g := w.heap.size + 1 + 1) HOb.out ((Kept.refl _ _).allocd _) (by omega)) (by decide) hg5)
              have HO5 := Lib.hid (show w5.ownsRow (w.heap.size + 1 + 1 + 1) 44 2 v' (acc.length + 1) (val2 (acc ++ [(nv t 1, nv (nx t 1) 1)])) by rw [flat_one2] at ho5; rw [val2_snoc]; exact ho5)
              obtain ⟨a5, k5, rfl, _⟩ := own_read HO5.out
              have hl5 := HI5.out.lt
              obtain ⟨p0, p1, p2, q0, q1, q2⟩ := c3_at HI5.out.c
              clear ho5 hb5 hg5 c0
              go_wp2_with fail
              exact ⟨⟨i + 1, j, acc ++ [(nv t 1, nv (nx t 1) 1)], nx2 t 1 1, _, by go_num, by omega, E1.out, E2.out, HI5.out.set1 _, own_set (c := w.heap.size + 1) HR0z.out (by omega) _ _, by rw [List.length_append]; exact own_set (c := w.heap.size + 1) HO5.out (by omega) _ _⟩, by simp [intOf]; omega⟩
    case rest =>
      obtain ⟨v1, hI, ho0, ho⟩ := hcut
      clear HO0
      have HO0 := Lib.hid ho0
      have HO1 := Lib.hid ho
      have HJ1 := Lib.hid hI
      have hlr1 := hI.lt
      clear hI ho0 ho HI2 HPP HSS hw hnb
      go_wp2_with fail
      refine (HN.out _ 1 _ HJ1.out.r).mono ?_; rintro e w2 ⟨rfl, h2, k2⟩
      have HI2 := Lib.hid (HJ1.out.kept k2 h2)
      have HO0a := Lib.hid (own_kept HO0.out k2 (by omega))
      have HO1a := Lib.hid (own_kept HO1.out k2 (by omega))
      clear h2 k2 HO0 HO1 HJ1
      have HO0 := HO0a
      have HO1 := HO1a
      clear HO0a HO1a
      have hnb := nv1_bd (sW s)
      obtain ⟨n, hn⟩ : ∃ n : Nat, nv (sW s) 1 = n := ⟨(nv (sW s) 1).toNat, by omega⟩
      have hw : IntKind.i64.wrap (nv (sW s) 1) = n := by rw [IntKind.wrap_i64]; omega
      rw [hn] at hw hnb
      have hP : el4 n (nx (sW s) 1) = lC s := by unfold lC; rw [hn]; rfl
      have hS : st4 n (nx (sW s) 1) = sC s := by unfold sC; rw [hn]; rfl
      have HPP := Lib.hid hP
      have HSS := Lib.hid hS
      rw [hn]
      clear hn hP hS
      go_upto_block 4 with fail
      go_cut [13, 14, 15, 16, 17] from 70 to 96 (fun _ _ _ _ _ wx => ∃ v, RI s w wx (sC s) v0 v1 v ∧ wx.ownsRow (w.heap.size + 1 + 1 + 1) 41 2 v0 (lP s).length (val2 (lP s)) ∧ wx.ownsRow (w.heap.size + 1 + 1 + 1) 44 2 v1 (lW s).length (val2 (lW s)) ∧ wx.ownsRow (w.heap.size + 1 + 1 + 1) 46 4 v (lC s).length (val4 (lC s)))
      case first =>
        go_wp2_with fail
        go_loopw [13] (fun iv W' => ∃ (i k : Nat) (acc : List (Int × Int × Int × Int)) (t : St) (v : Value), iv = .int .i64 i ∧ i + k = n ∧ acc ++ el4 k t = lC s ∧ st4 k t = sC s ∧ RI s w W' t v0 v1 v ∧ W'.ownsRow (w.heap.size + 1 + 1 + 1) 41 2 v0 (lP s).length (val2 (lP s)) ∧ W'.ownsRow (w.heap.size + 1 + 1 + 1) 44 2 v1 (lW s).length (val2 (lW s)) ∧ W'.ownsRow (w.heap.size + 1 + 1 + 1) 46 4 v acc.length (val4 acc)) (fun iv _ => n - (intOf iv).toNat)
        case atStart => exact ⟨0, n, [], nx (sW s) 1, _, rfl, by omega, HPP.out, HSS.out, HI2.out, HO0.out, HO1.out, own_nil⟩
        case round =>
          obtain ⟨i, k, acc, t, v, rfl, hik, hacc, hst, hI, ho0, ho1, ho⟩ := hrel
          have HA := Lib.hid hacc
          have HS := Lib.hid hst
          have HI := Lib.hid hI
          have HR0 := Lib.hid ho0
          have HR1 := Lib.hid ho1
          have HO := Lib.hid ho
          have hlt := hI.lt
          have hfin := hI.fine
          clear hacc hst hI ho0 ho1 ho
          by_cases h0 : k = 0
          · subst h0
            have hin : ¬ (i : Int) < n := by omega
            have e1 : acc = lC s := by simpa [el4] using HA.out
            have e2 : t = sC s := by simpa [st4] using HS.out
            go_wp2_with fail
            go_meet
            exact ⟨v, by rw [← e2]; exact HI.out, HR0.out, HR1.out, by rw [← e1]; exact HO.out⟩
          · have hin : (i : Int) < n := by omega
            obtain ⟨j, rfl⟩ := Nat.exists_eq_succ_of_ne_zero h0
            cases hf : t.f with
            | false =>
              rw [hf] at hfin
              have e1 : acc = lC s := by have := HA.out; simpa [el4, hf] using this
              have e2 : t = sC s := by have := HS.out; simpa [st4, hf] using this
              clear hf
              go_wp2_with fail
              go_meet
              exact ⟨v, by rw [← e2]; exact HI.out, HR0.out, HR1.out, by rw [← e1]; exact HO.out⟩
            | true =>
              rw [hf] at hfin
              have e1 : (acc ++ [(nv t 1, nv (nx t 1) 1, nv (nx (nx t 1) 1) 1, nv (nx (nx (nx t 1) 1) 1) 1)]) ++ el4 j (nx4 t) = lC s := by
                have := HA.out
                simpa [el4, hf] using this
              have e2 : st4 j (nx4 t) = sC s := by
                have := HS.out
                simpa [st4, hf] using this
              have hal : acc.length ≤ 255 := by
                have h3 := congrArg List.length e1
                simp only [List.length_append, List.length_cons, List.length_nil] at h3
                have := lC_len s
                omega
              have E1 := Lib.hid e1
              have E2 := Lib.hid e2
              have hq0 : IntKind.i64.wrap (nv t 1) = nv t 1 := by have := nv_bd t 1; rw [IntKind.wrap_i64]; omega
              have hq1 : IntKind.i64.wrap (nv (nx t 1) 1) = nv (nx t 1) 1 := by have := nv_bd (nx t 1) 1; rw [IntKind.wrap_i64]; omega
              have hq2 : IntKind.i64.wrap (nv (nx (nx t 1) 1) 1) = nv (nx (nx t 1) 1) 1 := by have := nv_bd (nx (nx t 1) 1) 1; rw [IntKind.wrap_i64]; omega
              have hq3 : IntKind.i64.wrap (nv (nx (nx (nx t 1) 1) 1) 1) = nv (nx (nx (nx t 1) 1) 1) 1 := by have := nv_bd (nx (nx (nx t 1) 1) 1) 1; rw [IntKind.wrap_i64]; omega
              clear hf e1 e2 h0 HA HS
              go_wp2_with fail
              refine (HN.out t 1 _ HI.out.r).mono ?_; rintro e w3a ⟨rfl, h3, k3⟩
              have HIa := Lib.hid (show RI s w w3a (nx t 1) v0 v1 v from HI.out.kept k3 h3)
              have HOa := Lib.hid (own_kept HO.out k3 (by omega))
              have HR0a := Lib.hid (own_kept HR0.out k3 (by omega))
              have HR1a := Lib.hid (own_kept HR1.out k3 (by omega))
              clear h3 k3
              go_wp2_with fail
              refine (HN.out (nx t 1) 1 _ HIa.out.r).mono ?_; rintro e w3b ⟨rfl, h3, k3⟩
              have HIb := Lib.hid (show RI s w w3b (nx (nx t 1) 1) v0 v1 v from HIa.out.kept k3 h3)
              have HOb := Lib.hid (own_kept HOa.out k3 (by omega))
              have HR0b := Lib.hid (own_kept HR0a.out k3 (by omega))
              have HR1b := Lib.hid (own_kept HR1a.out k3 (by omega))
              clear h3 k3
              go_wp2_with fail
              refine (HN.out (nx (nx t 1) 1) 1 _ HIb.out.r).mono ?_; rintro e w3c ⟨rfl, h3, k3⟩
              have HIc := Lib.hid (show RI s w w3c (nx (nx (nx t 1) 1) 1) v0 v1 v from HIb.out.kept k3 h3)
              have HOc := Lib.hid (own_kept HOb.out k3 (by omega))
              have HR0c := Lib.hid (own_kept HR0b.out k3 (by omega))
              have HR1c := Lib.hid (own_kept HR1b.out k3 (by omega))
              clear h3 k3
              go_wp2_with fail
              refine (HN.out (nx (nx (nx t 1) 1) 1) 1 _ HIc.out.r).mono ?_; rintro e w3d ⟨rfl, h3, k3⟩
              have HId := Lib.hid (show RI s w w3d (nx (nx (nx (nx t 1) 1) 1) 1) v0 v1 v from HIc.out.kept k3 h3)
              have HOd := Lib.hid (own_kept HOc.out k3 (by omega))
              have HR0d := Lib.hid (own_kept HR0c.out k3 (by omega))
              have HR1d := Lib.hid (own_kept HR1c.out k3 (by omega))
              clear h3 k3
              have HI4 := Lib.hid (show RI s w w3d (nx4 t) v0 v1 v from HId.out)
              have c0 : w3d.cell? ⟨w.heap.size + 1, 2, none⟩ = some v := (bk_cell HI4.out.c 2).trans rfl
              have hl4 := HI4.out.lt
              have hsl : SlF (w3d.alloc (.cells #[.int .i64 (nv t 1), .int .i64 (nv (nx t 1) 1), .int .i64 (nv (nx (nx t 1) 1) 1), .int .i64 (nv (nx (nx (nx t 1) 1) 1) 1)] 46)) 4 (some ⟨w3d.heap.size, 0, none⟩) 1 (one4 (nv t 1) (nv (nx t 1) 1) (nv (nx (nx t 1) 1) 1) (nv (nx (nx (nx t 1) 1) 1) 1)) := by
                refine .inr ⟨w3d.heap.size, 0, rfl, fun i hi r hr => ?_⟩
                obtain rfl : i = 0 := by omega
                rcases (show r = 0 ∨ r = 1 ∨ r = 2 ∨ r = 3 by omega) with rfl | rfl | rfl | rfl
                · exact (bk_cell (bk_new w3d _) 0).trans rfl
                · exact (bk_cell (bk_new w3d _) 1).trans rfl
                · exact (bk_cell (bk_new w3d _) 2).trans rfl
                · exact (bk_cell (bk_new w3d _) 3).trans rfl
              have HSL := Lib.hid hsl
              clear hsl
              go_wp2_with (at_builtin; refine appF rfl _ _ _ rfl keC v acc.length (val4 acc) (by rfl) (by exact own_kept (g := w.heap.size + 1 + 1) HOd.out ((Kept.refl _ _).allocd _) (by omega)) (some ⟨w3d.heap.size, 0, none⟩) 1 1 (one4 (nv t 1) (nv (nx t 1) 1) (nv (nx (nx t 1) 1) 1) (nv (nx (nx (nx t 1) 1) 1) 1)) (by rfl) (fun e => by cases e) (by exact HSL.out) (fun i r hr => by unfold one4; (repeat' split) <;> rfl) (by omega) ?c2 ?c1)
              case c2 => simp; omega
              case c1 =>
                intro v' w5 ho5 hb5 hg5
                have HI5 := Lib.hid ((HI4.out.kept ((Kept.refl _ _).allocd _) (HI4.out.r.kept (k := w3d.heap.size) ((Kept.refl _ _).allocd _) (by omega))).app hb5)
                have HR0z := Lib.hid (own_grown (own_kept (g := w.heap.size + 1 + 1) HR0d.out ((Kept.refl _ _).allocd _) (by omega)) (own_kept (g := w.heap.size + 1 + 1) HOd.out ((Kept.refl _ _).allocd _) (by omega)) (by decide) hg5)
                have HR1z := Lib.hid (own_grown (own_kept (g := w.heap.size + 1 + 1) HR1d.out ((Kept.refl _ _).allocd _) (by omega)) (own_kept (g := w.heap.size + 1 + 1) HOd.out ((Kept.refl _ _).allocd _) (by omega)) (by decide) hg5)
                have HO5 := Lib.hid (show w5.ownsRow (w.heap.size + 1 + 1 + 1) 46 4 v' (acc.length + 1) (val4 (acc ++ [(nv t 1, nv (nx t 1) 1, nv (nx (nx t 1) 1) 1, nv (nx (nx (nx t 1) 1) 1) 1)])) by rw [flat_one4] at ho5; rw [val4_snoc]; exact ho5)
                obtain ⟨a5, k5, rfl, _⟩ := own_read HO5.out
                have hl5 := HI5.out.lt
                obtain ⟨p0, p1, p2, q0, q1, q2⟩ := c3_at HI5.out.c
                clear ho5 hb5 hg5 c0
                go_wp2_with fail
                exact ⟨⟨i + 1, j, acc ++ [(nv t 1, nv (nx t 1) 1, nv (nx (nx t 1) 1) 1, nv (nx (nx (nx t 1) 1) 1) 1)], nx4 t, _, by go_num, by omega, E1.out, E2.out, HI5.out.set2 _, own_set (c := w.heap.size + 1) HR0z.out (by omega) _ _, own_set (c := w.heap.size + 1) HR1z.out (by omega) _ _, by rw [List.length_append]; exact own_set (c := w.heap.size + 1) HO5.out (by omega) _ _⟩, by simp [intOf]; omega⟩
      case rest =>
        obtain ⟨v2, hI, ho0, ho1, ho⟩ := hcut
        clear HO0
        clear HO1
        have HO0 := Lib.hid ho0
        have HO1 := Lib.hid ho1
        have HO2 := Lib.hid ho
        have HJ2 := Lib.hid hI
        have hlr2 := hI.lt
        clear hI ho0 ho1 ho HI2 HPP HSS hw hnb
        obtain ⟨a, ha, htl, hisw⟩ := HJ2.out.r
        have hfin := HJ2.out.fine
        have hat : wc.cell? ⟨w.heap.size + 1 + 1, 1, none⟩ = some (.int .i64 (a : Nat)) := (bk_cell hisw 1).trans rfl
        obtain ⟨a0, k0, rfl, _⟩ := own_read HO0.out
        obtain ⟨a1, k1, rfl, _⟩ := own_read HO1.out
        obtain ⟨a2, k2, rfl, _⟩ := own_read HO2.out
        have HGI := Lib.hid (own_isC HO0.out HO1.out HO2.out)
        have hsz : (sC s).t.size = s.size - a := by rw [htl, tl_size s a ha]
        obtain ⟨p0, p1, p2, q0, q1, q2⟩ := c3_at HJ2.out.c
        obtain ⟨z0, z1, z2, y0, y1, y2⟩ := c3_at (v0 := .slice none 0 0) (v1 := .slice none 0 0) (v2 := .slice none 0 0) HJ2.out.z
        have HBC := Lib.hid HJ2.out.b
        have HCC := Lib.hid HJ2.out.c
        have HZZ := Lib.hid HJ2.out.z
        clear hisw htl
        cases hf : (sC s).f with
        | false =>
          have hfr : frmB s = false := by simp [frmB, hf]
          have hgE : gtE s = 6 := by simp [gtE, hfr]
          have hgC : gtC s = noC := by simp [gtC, hgE]
          have HGE := Lib.hid hgE
          have HGC := Lib.hid hgC
          rw [hf] at hfin
          clear hf hgE hgC hfr
          go_wp2_with fail
          exact rg_bad s w _ _ _ rfl rfl HZZ.out HBC.out HGE.out HGC.out
        | true =>
          rw [hf] at hfin
          by_cases hz : a = s.size
          · subst hz
            have hfr : frmB s = true := by simp [frmB, hf, hsz]
            have hgE : gtE s = ckE (rdC s) := by simp [gtE, hfr]
            have HGE := Lib.hid hgE
            have hz1 : ((s.size : Int) != s.size) = false := by simp
            have hz2 : ((s.size : Int) == s.size) = true := by simp
            have HCK := Lib.hid (show Calls Try.prog 14 #[.agg #[.slice a0 (lP s).length k0, .slice a1 (lW s).length k1, .slice a2 (lC s).length k2]] wc fun e w' => e = .returned (.int .i64 (ckE (rdC s))) ∧ Below wc.heap.size wc w' from rcheck_any (rdC s) ⟨a0, k0, a1, k1, a2, k2⟩ wc HGI.out ⟨Nat.le_trans (lP_len s) (by decide), Nat.le_trans (lW_len s) (by decide), Nat.le_trans (lC_len s) (by decide)⟩)
            clear hf hgE hfr
            go_wp2_with fail
            refine HCK.out.mono ?_; rintro e w9 ⟨rfl, hb⟩
            have HI9 := Lib.hid (HGI.out.below hb)
            have HC9 := Lib.hid (bk_below HCC.out hb)
            have HZ9 := Lib.hid (bk_below HZZ.out hb)
            have HB9 := Lib.hid (bstep HBC.out hb)
            have HO09 := Lib.hid (ownF_below HO0.out hb)
            have HO19 := Lib.hid (ownF_below HO1.out hb)
            have HO29 := Lib.hid (ownF_below HO2.out hb)
            have hl9 : w.heap.size + 1 + 1 < w9.heap.size := Nat.lt_of_lt_of_le hlr2 hb.size
            clear hb p0 p1 p2 q0 q1 q2 z0 z1 z2 y0 y1 y2 hz1 hz2 hat hfin
            obtain ⟨p0, p1, p2, q0, q1, q2⟩ := c3_at HC9.out
            obtain ⟨z0, z1, z2, y0, y1, y2⟩ := c3_at (v0 := .slice none 0 0) (v1 := .slice none 0 0) (v2 := .slice none 0 0) HZ9.out
            by_cases he : ckE (rdC s) = 0
            · have he1 : (ckE (rdC s) != 0) = false := by simp [he]
              have he2 : (ckE (rdC s) == 0) = true := by simp [he]
              have hgC : gtC s = rdC s := by simp [gtC, HGE.out, he]
              have hgE0 : gtE s = 0 := by rw [HGE.out, he]
              have HGC := Lib.hid hgC
              have HG0 := Lib.hid hgE0
              clear he hgC hgE0
              go_wp2_with fail
              refine rg_end s w _ _ _ _ _ 0 rfl rfl (setc3 HZ9.out _ _ _) ?_
              unfold GetR
              rw [HG0.out, HGC.out]
              refine ⟨⟨a0, k0, a1, k1, a2, k2⟩, rfl, ?_, ((HB9.out.setCell (p := ⟨w.heap.size, 0, none⟩) (Nat.le_refl _) _).setCell (p := ⟨w.heap.size, 1, none⟩) (Nat.le_refl _) _).setCell (p := ⟨w.heap.size, 2, none⟩) (Nat.le_refl _) _⟩
              exact own_isC (own_set (c := w.heap.size) (own_set (c := w.heap.size) (own_set (c := w.heap.size) HO09.out (by omega) 0 _) (by omega) 1 _) (by omega) 2 _) (own_set (c := w.heap.size) (own_set (c := w.heap.size) (own_set (c := w.heap.size) HO19.out (by omega) 0 _) (by omega) 1 _) (by omega) 2 _) (own_set (c := w.heap.size) (own_set (c := w.heap.size) (own_set (c := w.heap.size) HO29.out (by omega) 0 _) (by omega) 1 _) (by omega) 2 _)
            · have he1 : (ckE (rdC s) != 0) = true := by simp [he]
              have he2 : (ckE (rdC s) == 0) = false := by simp [he]
              have hgC : gtC s = noC := by simp [gtC, HGE.out, he]
              have HGC := Lib.hid hgC
              clear he hgC
              go_wp2_with fail
              exact rg_bad s w _ _ _ rfl rfl HZ9.out HB9.out HGE.out HGC.out
          · have hfr : frmB s = false := by simp [frmB, hf, hsz]; omega
            have hgE : gtE s = 6 := by simp [gtE, hfr]
            have hgC : gtC s = noC := by simp [gtC, hgE]
            have HGE := Lib.hid hgE
            have HGC := Lib.hid hgC
            have hz1 : ((a : Int) != s.size) = true := by simp only [bne, Bool.not_eq_true', beq_eq_false_iff_ne]; omega
            have hz2 : ((a : Int) == s.size) = false := beq_eq_false_iff_ne.2 (by omega)
            clear hf hgE hgC hfr
            go_wp2_with fail
            exact rg_bad s w _ _ _ rfl rfl HZZ.out HBC.out HGE.out HGC.out
end Go.Proofs.Ythgoighpmnecbaa
