/- Helper text of this seat (ZOrd): contracts of functions of the given program and of its references, and the laws' plain parts, each told by its theorem. Conditions: as each theorem names them. -/
import Derived.Test.YthgoighpmnecbaaZPut
import Derived.Test.YthgoighpmnecbaaZGrow
import Derived.Deep.CutRange
import Derived.Deep.AppendLies
import Derived.Deep.RegionLaw
namespace Go.Proofs.Ythgoighpmnecbaa
open Go.RowKit
set_option linter.unusedVariables false
set_option linter.unusedSimpArgs false
/-- windows and channels the other way round -/
def revC (C : Cfg) : Cfg where
  nP := C.nP
  nW := C.nW
  nC := C.nC
  q := C.q
  s := C.s
  wp := fun i => C.wp (C.nW - 1 - i)
  wt := fun i => C.wt (C.nW - 1 - i)
  cf := fun i => C.cf (C.nC - 1 - i)
  ct := fun i => C.ct (C.nC - 1 - i)
  cc := fun i => C.cc (C.nC - 1 - i)
  cw := fun i => C.cw (C.nC - 1 - i)
theorem rev_num1 {C : Cfg} (h : NumOk C) : NumOk (revC C) := by
  obtain ⟨a, b, c, d, e⟩ := h
  refine ⟨a, b, fun i hi => c (C.nW - 1 - i) (by have : i < C.nW := hi; omega), fun i hi => ?_, fun i hi => e (C.nC - 1 - i) (by have : i < C.nC := hi; omega)⟩
  have := d i hi
  simp only [seenB, List.any_eq_true, List.mem_range, beq_iff_eq] at this ⊢
  obtain ⟨j, hj, g⟩ := this
  refine ⟨C.nW - 1 - j, (by show C.nW - 1 - j < C.nW; omega), ?_⟩
  show C.wp (C.nW - 1 - (C.nW - 1 - j)) = i
  rw [show C.nW - 1 - (C.nW - 1 - j) = j by omega]
  exact g
theorem rev_num2 {C : Cfg} (h : NumOk (revC C)) : NumOk C := by
  have h2 := rev_num1 h
  refine num_congr1 ?_ h2
  rw [same_iff]
  refine ⟨rfl, ?_, ?_⟩
  · apply List.map_congr_left
    intro i hi
    have hi' : i < C.nW := List.mem_range.1 hi
    show (C.wp (C.nW - 1 - (C.nW - 1 - i)), C.wt (C.nW - 1 - (C.nW - 1 - i))) = _
    rw [show C.nW - 1 - (C.nW - 1 - i) = i by omega]
  · apply List.map_congr_left
    intro i hi
    have hi' : i < C.nC := List.mem_range.1 hi
    show (C.cf (C.nC - 1 - (C.nC - 1 - i)), C.ct (C.nC - 1 - (C.nC - 1 - i)), C.cc (C.nC - 1 - (C.nC - 1 - i)), C.cw (C.nC - 1 - (C.nC - 1 - i))) = _
    rw [show C.nC - 1 - (C.nC - 1 - i) = i by omega]
theorem rev_num {C : Cfg} : NumOk (revC C) ↔ NumOk C := ⟨rev_num2, rev_num1⟩
theorem sumF_rev (f : Nat → Int) : ∀ n, sumF (fun i => f (n - 1 - i)) n = sumF f n := by
  have shift : ∀ (g : Nat → Int) (n : Nat), sumF g (n + 1) = g 0 + sumF (fun i => g (i + 1)) n := by
    intro g n
    induction n with
    | zero => simp [sumF]
    | succ n ih =>
      rw [sumF, ih]
      simp only [sumF]
      omega
  intro n
  induction n with
  | zero => rfl
  | succ n ih =>
    rw [shift]
    simp only [sumF]
    have e : sumF (fun i => f (n + 1 - 1 - (i + 1))) n = sumF (fun i => f (n - 1 - i)) n := sumF_congr n fun i hi => by
      show f (n + 1 - 1 - (i + 1)) = f (n - 1 - i)
      rw [show n + 1 - 1 - (i + 1) = n - 1 - i by omega]
    rw [e, ih, show n + 1 - 1 - 0 = n by omega]
    omega
theorem rev_fr (C : Cfg) : frE (revC C) = frE C := by
  by_cases h : NumOk C
  · rw [frE_ok h, frE_ok (rev_num1 h)]
    have : sumF (fC (revC C)) C.nC = sumF (fC C) C.nC := sumF_rev (fC C) C.nC
    show sumF (fP C) C.nP + sumF (fC (revC C)) C.nC = _
    rw [this]
  · rw [frE_bad h, frE_bad fun g => h (rev_num2 g)]
theorem rev_ck (C : Cfg) : ckE (revC C) = ckE C := by
  have hf := rev_fr C
  by_cases hC : NumOk C
  · by_cases g : 1024 < frE C
    · rw [ckE_full hC g, ckE_full (rev_num1 hC) (by omega)]
    · rw [ckE_ok ⟨hC, by omega⟩, ckE_ok ⟨rev_num1 hC, by omega⟩]
  · rw [ckE_bad hC, ckE_bad fun g => hC (rev_num2 g)]
theorem rev_put {C : Cfg} (h : ckE C = 0) : ((putS C).toList == (putS (revC C)).toList) = sameB C (revC C) ∧ (putS C).size = (putS (revC C)).size := by
  have hok := ckE_zero h
  have hok' := ckE_zero ((rev_ck C).trans h)
  rw [show putS C = confS C from if_pos hok, show putS (revC C) = confS (revC C) from if_pos hok', ByteArray.toList_eq, ByteArray.toList_eq]
  refine ⟨?_, by rw [confS_size hok.1, confS_size hok'.1]; rfl⟩
  cases hx : sameB C (revC C) with
  | true => rw [← confS_congr hx]; simp
  | false =>
    apply beq_eq_false_iff_ne.2
    intro he
    have := put_inj hok.1 hok'.1 (ByteArray.ext (Array.toList_inj.1 he))
    rw [hx] at this
    cases this
end Go.Proofs.Ythgoighpmnecbaa
namespace Go.Proofs.Ythgoighpmnecbaa
open Go.RowKit
set_option linter.unusedVariables false
set_option linter.unusedSimpArgs false
theorem Sl2.app0 {w W W' : World} {a : Option Addr} {n B : Nat} {X Y : Nat → Int} (h0 : Sl2 w a n X Y) (h : Sl2 W a n X Y) (hb : Below B W W') (hB : w.heap.size ≤ B) : Sl2 W' a n X Y := by
  rcases h with h | ⟨b, o, rfl, hc⟩
  · exact .inl h
  · by_cases hn : n = 0
    · exact .inl hn
    · rcases h0 with h0 | ⟨b', o', e, hc'⟩
      · exact .inl h0
      · simp only [Option.some.injEq, Addr.mk.injEq, and_true] at e
        obtain ⟨rfl, rfl⟩ := e
        have hlt : b < w.heap.size := block_lt_of_cell (hc' 0 (by omega)).1
        have cc : ∀ j u, W.cell? ⟨b, j, none⟩ = some u → W'.cell? ⟨b, j, none⟩ = some u := fun j u h => (World.cell?_of_block (w := W) (w' := W') (hb.block b (by omega))).trans h
        exact .inr ⟨b, o, rfl, fun i hi => ⟨cc _ _ (hc i hi).1, cc _ _ (hc i hi).2⟩⟩
theorem Sl4.app0 {w W W' : World} {a : Option Addr} {n B : Nat} {X Y Z U : Nat → Int} (h0 : Sl4 w a n X Y Z U) (h : Sl4 W a n X Y Z U) (hb : Below B W W') (hB : w.heap.size ≤ B) : Sl4 W' a n X Y Z U := by
  rcases h with h | ⟨b, o, rfl, hc⟩
  · exact .inl h
  · by_cases hn : n = 0
    · exact .inl hn
    · rcases h0 with h0 | ⟨b', o', e, hc'⟩
      · exact .inl h0
      · simp only [Option.some.injEq, Addr.mk.injEq, and_true] at e
        obtain ⟨rfl, rfl⟩ := e
        have hlt : b < w.heap.size := block_lt_of_cell (hc' 0 (by omega)).1
        have cc : ∀ j u, W.cell? ⟨b, j, none⟩ = some u → W'.cell? ⟨b, j, none⟩ = some u := fun j u h => (World.cell?_of_block (w := W) (w' := W') (hb.block b (by omega))).trans h
        exact .inr ⟨b, o, rfl, fun i hi => ⟨cc _ _ (hc i hi).1, cc _ _ (hc i hi).2.1, cc _ _ (hc i hi).2.2.1, cc _ _ (hc i hi).2.2.2⟩⟩
theorem IsC.app0 {w W W' : World} {C : Cfg} {l : Lay} {B : Nat} (h : IsC W C l) (h0 : IsC w C l) (hb : Below B W W') (hB : w.heap.size ≤ B) : IsC W' C l := ⟨h0.P.app0 h.P hb hB, h0.W.app0 h.W hb hB, h0.C.app0 h.C hb hB⟩
/-- under way: the configuration, and the other one so far -/
structure OI (C : Cfg) (l : Lay) (w W : World) (nd : Nat) (v1 v2 : Value) : Prop where
  z : IsC w C l
  h : W.heap[w.heap.size]? = some (.cells #[.slice l.pP C.nP l.cP, .slice l.pW C.nW l.cW, .slice l.pC C.nC l.cC] 26 (0, 0))
  i : IsC W C l
  d : W.heap[nd]? = some (.cells #[.slice l.pP C.nP l.cP, v1, v2] 26 (0, 0))
  b : Below w.heap.size w W
  n : w.heap.size < nd
section
variable {C : Cfg} {l : Lay} {w W W' : World} {nd : Nat} {v1 v2 : Value}
theorem OI.app (h : OI C l w W nd v1 v2) (hb : Below (nd + 1) W W') : OI C l w W' nd v1 v2 :=
  ⟨h.z, (hb.block _ (by have := h.n; omega)).trans h.h, h.i.app0 h.z hb (by have := h.n; omega), (hb.block _ (by omega)).trans h.d, h.b.trans (hb.mono (by have := h.n; omega)), h.n⟩
theorem OI.alloc (h : OI C l w W nd v1 v2) (o : Obj) : OI C l w (W.alloc o) nd v1 v2 := h.app ((Below.refl _ _).alloc (by have := bk_lt h.d; omega) _)
theorem OI.below (h : OI C l w W nd v1 v2) (hb : Below W.heap.size W W') : OI C l w W' nd v1 v2 := h.app (hb.mono (by have := bk_lt h.d; omega))
theorem OI.set1 (h : OI C l w W nd v1 v2) (x : Value) : OI C l w (W.setCell ⟨nd, 1, none⟩ x) nd x v2 := by
  have hk : Kept nd W (W.setCell ⟨nd, 1, none⟩ x) := (Kept.refl _ _).setCell _ _
  have hn := h.n
  exact ⟨h.z, hk.blk h.h (by omega), h.i.kept0 h.z hk (by omega), bk_set h.d 1 x, hk.below h.b (by omega) h.b.size, h.n⟩
theorem OI.set2 (h : OI C l w W nd v1 v2) (x : Value) : OI C l w (W.setCell ⟨nd, 2, none⟩ x) nd v1 x := by
  have hk : Kept nd W (W.setCell ⟨nd, 2, none⟩ x) := (Kept.refl _ _).setCell _ _
  have hn := h.n
  exact ⟨h.z, hk.blk h.h (by omega), h.i.kept0 h.z hk (by omega), bk_set h.d 2 x, hk.below h.b (by omega) h.b.size, h.n⟩
theorem OI.cells (h : OI C l w W nd v1 v2) : W.cell? ⟨w.heap.size, 0, none⟩ = some (.slice l.pP C.nP l.cP) ∧ W.cell? ⟨w.heap.size, 1, none⟩ = some (.slice l.pW C.nW l.cW) ∧ W.cell? ⟨w.heap.size, 2, none⟩ = some (.slice l.pC C.nC l.cC) :=
  ⟨(bk_cell h.h 0).trans rfl, (bk_cell h.h 1).trans rfl, (bk_cell h.h 2).trans rfl⟩
theorem OI.cellsD (h : OI C l w W nd v1 v2) : W.cell? ⟨nd, 0, none⟩ = some (.slice l.pP C.nP l.cP) ∧ W.cell? ⟨nd, 1, none⟩ = some v1 ∧ W.cell? ⟨nd, 2, none⟩ = some v2 ∧ W.frozen? ⟨nd, 1, none⟩ = false ∧ W.frozen? ⟨nd, 2, none⟩ = false ∧ nd < W.heap.size :=
  ⟨(bk_cell h.d 0).trans rfl, (bk_cell h.d 1).trans rfl, (bk_cell h.d 2).trans rfl, bk_frozen h.d 1, bk_frozen h.d 2, bk_lt h.d⟩
end
/-- 'x.f = append(x.f, E{..})' in a region that draws -/
theorem step_appK {P : Program} {ops : Array Oper} {o : Oper} {a : Act} {w : World} {K : Act → World → Prop} {Q : Exit → Act → World → Prop} {E : Prop} (hgd : o.guard = none) (s x : Operand) (t : TypeId)
    (ho : o.op = .call { callee := .builtin .append, args := #[s, x], argTypes := #[t, t] }) {base e k bytes : Nat} {z : Value} (ie : KElem P t e z k bytes) (v : Value) (n : Nat) (zs : List Value)
    (hs : a.eval s = v) (hown : w.ownsRow base e k v n zs) (b : Nat) (cs : Array Value) (hx : a.eval x = .slice (some ⟨b, 0, none⟩) 1 1) (hb : ∃ t fr, w.heap[b]? = some (.cells cs t fr)) (hk : cs.size = k) (h1 : ∀ u ∈ cs.toList, u.oneCell' = true)
    (h63 : n < 100000000) (hbase : base ≤ w.heap.size)
    (h : ∀ g cap w', w'.ownsRow base e k (.slice (some ⟨g, 0, none⟩) (n + 1) cap) (n + 1) (zs ++ cs.toList) → Below base w w' → w.grownBy w' v.ownBlock → K (a.put o.dst (.slice (some ⟨g, 0, none⟩) (n + 1) cap)) w') :
    if Region.wanted o (yielded ops a.tmps) = true then Oper.wp P o a w K Q else E := by
  obtain ⟨i0, hi, hz0, hz1, hz2⟩ := info_partsV ie.hi
  obtain ⟨t', fr, hb⟩ := hb
  have hb64 := ie.hb
  refine step_append_lies w hgd s x t ho base e i0 z k bytes ie.ht hi hz0 hz1 hz2 ie.hz ie.hk v n zs hs hown ⟨b, 0, none⟩ 1 1 cs.toList hx (by simp [hk]) (World.news_of_block hb) h1 (by decide) (by simp [maxLen]; omega) ?_ hbase _ rfl ?_
  · have : (n + 1) * bytes ≤ (n + 1) * 64 := Nat.mul_le_mul_left _ hb64
    omega
  · intro g cap w' h2 h3 _ _
    exact h g cap w' h2 ⟨h3.os, h3.tape, h3.output, h3.size, fun j hj => h3.block j (Nat.lt_of_lt_of_le hj hbase) (fun e => by have := (hown.lt j e.symm).1; omega)⟩ h3
/-- the windows, the channels, from behind -/
def rw2 (C : Cfg) (k : Nat) : List (Int × Int) := (List.range k).map fun i => (C.wp (C.nW - 1 - i), C.wt (C.nW - 1 - i))
def rw4 (C : Cfg) (k : Nat) : List (Int × Int × Int × Int) := (List.range k).map fun i => (C.cf (C.nC - 1 - i), C.ct (C.nC - 1 - i), C.cc (C.nC - 1 - i), C.cw (C.nC - 1 - i))
theorem rw2_snoc (C : Cfg) (k : Nat) : rw2 C (k + 1) = rw2 C k ++ [(C.wp (C.nW - 1 - k), C.wt (C.nW - 1 - k))] := by simp [rw2, List.range_succ]
theorem rw4_snoc (C : Cfg) (k : Nat) : rw4 C (k + 1) = rw4 C k ++ [(C.cf (C.nC - 1 - k), C.ct (C.nC - 1 - k), C.cc (C.nC - 1 - k), C.cw (C.nC - 1 - k))] := by simp [rw4, List.range_succ]
theorem rw2_len (C : Cfg) (k : Nat) : (rw2 C k).length = k := by simp [rw2]
theorem rw4_len (C : Cfg) (k : Nat) : (rw4 C k).length = k := by simp [rw4]
theorem own_revC {C : Cfg} {w : World} {B e1 e2 : Nat} {p a1 a2 : Option Addr} {c k1 k2 : Nat} (hP : Sl2 w p C.nP C.q C.s) (h1 : w.ownsRow B e1 2 (.slice a1 C.nW k1) C.nW (val2 (rw2 C C.nW))) (h2 : w.ownsRow B e2 4 (.slice a2 C.nC k2) C.nC (val4 (rw4 C C.nC))) : IsC w (revC C) ⟨p, c, a1, k1, a2, k2⟩ := by
  have l1 := rw2_len C C.nW
  have l2 := rw4_len C C.nC
  obtain ⟨a, c, hv, g1⟩ := own_sl2 (w := w) (B := B) (e := e1) (l := rw2 C C.nW) (v := .slice a1 C.nW k1) (by rw [l1]; exact h1)
  rw [l1] at hv g1
  cases hv
  obtain ⟨a, c, hv, g2⟩ := own_sl4 (w := w) (B := B) (e := e2) (l := rw4 C C.nC) (v := .slice a2 C.nC k2) (by rw [l2]; exact h2)
  rw [l2] at hv g2
  cases hv
  refine ⟨hP, ?_, ?_⟩
  · rcases g1 with g | ⟨b, o, e, g⟩
    · exact .inl g
    · refine .inr ⟨b, o, e, fun i hi => ?_⟩
      have := g i hi
      have e : (rw2 C C.nW).getD i (0, 0) = (C.wp (C.nW - 1 - i), C.wt (C.nW - 1 - i)) := by
        have hi' : i < C.nW := hi
        simp [rw2, hi']
      dsimp only at this
      rw [e] at this
      exact this
  · rcases g2 with g | ⟨b, o, e, g⟩
    · exact .inl g
    · refine .inr ⟨b, o, e, fun i hi => ?_⟩
      have := g i hi
      have e : (rw4 C C.nC).getD i (0, 0, 0, 0) = (C.cf (C.nC - 1 - i), C.ct (C.nC - 1 - i), C.cc (C.nC - 1 - i), C.cw (C.nC - 1 - i)) := by
        have hi' : i < C.nC := hi
        simp [rw4, hi']
      dsimp only at this
      rw [e] at this
      exact this
theorem ord_long (C : Cfg) (l : Lay) (w : World) (h : longB C = true) :
    Calls Try.prog 8 #[.agg (cfgV C l)] w fun e w' => e = .returned (.bool true) ∧ Below w.heap.size w w' := by
  obtain ⟨pP, cP, pW, cW, pC, cC⟩ := l
  have HLC := Lib.hid fun (W : World) => longv (C := C) (p := pP) (q := pW) (r := pC) (c := cP) (d := cW) (k := cC) (w := W)
  have HU := Lib.hid (show cfgV C ⟨pP, cP, pW, cW, pC, cC⟩ = #[.slice pP C.nP cP, .slice pW C.nW cW, .slice pC C.nC cC] from rfl)
  rw [HU.out]
  rw [h] at HLC
  clear HU h
  go_enter Try.func8, Try.ntmps8
  go_wp2_with fail
  refine (HLC.out _).mono ?_; rintro e w1 ⟨rfl, b1⟩
  have HB1 := Lib.hid (bstep (a := w) (by go_grown) b1)
  clear b1
  go_wp2_with fail
  refine (awake_any _).mono ?_; rintro e w2 ⟨rfl, b2⟩
  go_wp2
  go_ret
  exact ⟨rfl, bstep HB1.out b2⟩
set_option maxRecDepth 100000 in
set_option maxHeartbeats 4000000 in
theorem ord_short (C : Cfg) (l : Lay) (w : World) (hI : IsC w C l) (hl : longB C = false) :
    Calls Try.prog 8 #[.agg (cfgV C l)] w fun e w' => e = .returned (.bool true) ∧ Below w.heap.size w w' := by
  obtain ⟨pP, cP, pW, cW, pC, cC⟩ := l
  have hNC := short_hN hl
  have hN1 : C.nW ≤ 100 ∧ C.nC ≤ 100 := by simp [longB] at hl; omega
  have HI := Lib.hid hI
  have HLC := Lib.hid fun (W : World) => longv (C := C) (p := pP) (q := pW) (r := pC) (c := cP) (d := cW) (k := cC) (w := W)
  have HP := Lib.hid fun (W : World) (h : IsC W C ⟨pP, cP, pW, cW, pC, cC⟩) => putv h hNC
  have HF := Lib.hid fun (W : World) (h : IsC W C ⟨pP, cP, pW, cW, pC, cC⟩) => framesv h hNC
  have hpd := fun (q r : Option Addr) (d k : Nat) (W : World) (h : IsC W (revC C) ⟨pP, cP, q, d, r, k⟩) => show Calls Try.prog 11 #[.agg #[.slice pP C.nP cP, .slice q C.nW d, .slice r C.nC k]] W fun e w' => e = .returned (.tuple #[.string (putS (revC C)), .int .i64 (ckE (revC C))]) ∧ Below W.heap.size W w' from putv h hNC
  have hfd := fun (q r : Option Addr) (d k : Nat) (W : World) (h : IsC W (revC C) ⟨pP, cP, q, d, r, k⟩) => show Calls Try.prog 15 #[.agg #[.slice pP C.nP cP, .slice q C.nW d, .slice r C.nC k]] W fun e w' => e = .returned (.int .i64 (frE (revC C))) ∧ Below W.heap.size W w' from framesv h hNC
  have hsd := fun (q r : Option Addr) (d k : Nat) (W : World) (h : IsC W C ⟨pP, cP, pW, cW, pC, cC⟩) (h' : IsC W (revC C) ⟨pP, cP, q, d, r, k⟩) => show Calls Try.prog 17 #[.agg #[.slice pP C.nP cP, .slice pW C.nW cW, .slice pC C.nC cC], .agg #[.slice pP C.nP cP, .slice q C.nW d, .slice r C.nC k]] W fun e w' => e = .returned (.bool (sameB C (revC C))) ∧ Below W.heap.size W w' from samev h h' hNC
  have hpl := rev_put (C := C)
  rw [rev_ck] at hpd
  rw [rev_fr] at hfd
  have HPD := Lib.hid hpd
  have HFD := Lib.hid hfd
  have HSD := Lib.hid hsd
  have HPL := Lib.hid hpl
  have HNC := Lib.hid hNC
  have HU := Lib.hid (show cfgV C ⟨pP, cP, pW, cW, pC, cC⟩ = #[.slice pP C.nP cP, .slice pW C.nW cW, .slice pC C.nC cC] from rfl)
  rw [HU.out]
  rw [hl] at HLC
  clear HU hI hl hNC hpd hfd hsd hpl
  go_enter Try.func8, Try.ntmps8
  go_wp2_with fail
  refine (HLC.out _).mono ?_; rintro e w1 ⟨rfl, b1⟩
  have HB1 := Lib.hid (bstep (a := w) (by go_grown) b1)
  have HV1 := Lib.hid (show CV w1 w.heap.size C pP cP pW cW pC cC from ⟨bk_below (bk_new w _) b1, HI.out.below HB1.out⟩)
  clear b1
  obtain ⟨y0, y1, y2, y3⟩ := HV1.out.cells
  go_upto_block 0 with fail
  clear y0 y1 y2
  refine wp_abs (fun V => OI C ⟨pP, cP, pW, cW, pC, cC⟩ w V w1.heap.size (.slice none 0 0) (.slice none 0 0)) ?_ ?_
  · exact ⟨HI.out, bk_alloc HV1.out.h _, (HV1.out.alloc _).i, bk_new _ _, HB1.out.alloc HB1.out.size _, y3⟩
  rintro V hv
  have HV := Lib.hid hv
  clear hv
  go_cut [4] from 16 to 37 (fun _ wx => ∃ v, OI C ⟨pP, cP, pW, cW, pC, cC⟩ w wx w1.heap.size v (.slice none 0 0) ∧ wx.ownsRow (w1.heap.size + 1) 44 2 v C.nW (val2 (rw2 C C.nW)))
  case first =>
    go_wp2_with fail
    go_loopw [4] (fun iv W' => ∃ (i : Nat) (v : Value), i ≤ C.nW ∧ iv = .int .i64 i ∧ OI C ⟨pP, cP, pW, cW, pC, cC⟩ w W' w1.heap.size v (.slice none 0 0) ∧ W'.ownsRow (w1.heap.size + 1) 44 2 v i (val2 (rw2 C i))) (fun iv _ => C.nW - (intOf iv).toNat)
    case atStart => exact ⟨0, _, by omega, rfl, HV.out, own_nil⟩
    case round =>
      obtain ⟨i, v, hi, rfl, hoi, ho⟩ := hrel
      have HOI := Lib.hid hoi
      have HO := Lib.hid ho
      obtain ⟨c0, c1, c2⟩ := hoi.cells
      have hnl := bk_lt hoi.d
      clear hoi ho
      by_cases hin : i < C.nW
      · have hin' : (i : Int) < C.nW := by omega
        rcases HOI.out.i.W with h0 | ⟨b, o, e7, hc⟩
        · exact absurd h0 (by show ¬ C.nW = 0; omega)
        simp only at e7
        subst e7
        have d0 := (hc (C.nW - 1 - i) (by show C.nW - 1 - i < C.nW; omega)).1
        have d1 := (hc (C.nW - 1 - i) (by show C.nW - 1 - i < C.nW; omega)).2
        obtain ⟨m, hm⟩ : ∃ m : Nat, m = C.nW - 1 - i := ⟨_, rfl⟩
        rw [← hm] at d0 d1
        have hsn := rw2_snoc C i
        rw [← hm] at hsn
        have HSN := Lib.hid hsn
        have hw3 : IntKind.i64.wrap ((C.nW : Int) - 1) = (C.nW : Int) - 1 := by rw [IntKind.wrap_i64]; omega
        have hw2 : wrap64 ((C.nW : Int) - 1 - i) = (m : Int) := by unfold wrap64; omega
        have hw4 : IntKind.i64.wrap ((C.nW : Int) - 1 - i) = (m : Int) := by rw [IntKind.wrap_i64]; omega
        have hj1 : (0 : Int) ≤ (m : Int) := by omega
        have hj2 : (m : Int) < C.nW := by omega
        have hi8 : i ≤ 100 := by omega
        clear hsn hm
        clear hc
        obtain ⟨a1, k1, rfl, _⟩ := own_read HO.out
        obtain ⟨f0, f1, f2, f3, f4, f5⟩ := HOI.out.cellsD
        go_wp2_with fail
        go_region_law (first | (refine step_appK rfl _ _ _ rfl keW (.slice a1 i k1) i (val2 (rw2 C i)) rfl (by exact HO.out.alloc _) wr.heap.size #[.int .i64 (C.wp m), .int .i64 (C.wt m)] rfl (by exact ⟨_, _, bk_new wr _⟩) rfl (by intro u hu; simp at hu; rcases hu with rfl | rfl <;> rfl) (by omega) (by simp; omega) ?_; intro g cap w5 ho5 hb5 hg5; have hoi5 : OI C ⟨pP, cP, some ⟨b, o, none⟩, cW, pC, cC⟩ w w5 w1.heap.size (.slice a1 i k1) (.slice none 0 0) := OI.app (W := (wr.alloc _)) (HOI.out.alloc _) ⟨hb5.os, hb5.tape, hb5.output, hb5.size, hb5.block⟩; obtain ⟨F0, F1, F2, F3, F4, F5⟩ := hoi5.cellsD))
        all_goals
          go_wp2_with fail
          exact ⟨⟨i + 1, _, by omega, by go_num, hoi5.set1 _, by rw [HSN.out, val2_snoc]; exact own_set (c := w1.heap.size) ho5 (by omega) 1 _⟩, by simp [intOf]; omega⟩
      · obtain rfl : i = C.nW := by omega
        have hin' : ¬ (C.nW : Int) < C.nW := by omega
        go_wp2_with fail
        go_meet
        exact ⟨v, HOI.out, HO.out⟩
  case rest =>
    obtain ⟨v1, hoi2, hw2⟩ := hcut
    have HV2 := Lib.hid hoi2
    have HW2 := Lib.hid hw2
    clear hoi2 hw2
    go_upto_block 2 with fail
    go_cut [5] from 38 to 59 (fun _ wx => ∃ v, OI C ⟨pP, cP, pW, cW, pC, cC⟩ w wx w1.heap.size v1 v ∧ wx.ownsRow (w1.heap.size + 1) 44 2 v1 C.nW (val2 (rw2 C C.nW)) ∧ wx.ownsRow (w1.heap.size + 1) 46 4 v C.nC (val4 (rw4 C C.nC)))
    case first =>
      go_wp2_with fail
      go_loopw [5] (fun iv W' => ∃ (i : Nat) (v : Value), i ≤ C.nC ∧ iv = .int .i64 i ∧ OI C ⟨pP, cP, pW, cW, pC, cC⟩ w W' w1.heap.size v1 v ∧ W'.ownsRow (w1.heap.size + 1) 44 2 v1 C.nW (val2 (rw2 C C.nW)) ∧ W'.ownsRow (w1.heap.size + 1) 46 4 v i (val4 (rw4 C i))) (fun iv _ => C.nC - (intOf iv).toNat)
      case atStart => exact ⟨0, _, by omega, rfl, HV2.out, HW2.out, own_nil⟩
      case round =>
        obtain ⟨i, v, hi, rfl, hoi, hw5, ho⟩ := hrel
        have HWR := Lib.hid hw5
        have HOI := Lib.hid hoi
        have HO := Lib.hid ho
        obtain ⟨c0, c1, c2⟩ := hoi.cells
        have hnl := bk_lt hoi.d
        clear hoi ho hw5
        by_cases hin : i < C.nC
        · have hin' : (i : Int) < C.nC := by omega
          rcases HOI.out.i.C with h0 | ⟨b, o, e7, hc⟩
          · exact absurd h0 (by show ¬ C.nC = 0; omega)
          simp only at e7
          subst e7
          have d0 := (hc (C.nC - 1 - i) (by show C.nC - 1 - i < C.nC; omega)).1
          have d1 := (hc (C.nC - 1 - i) (by show C.nC - 1 - i < C.nC; omega)).2.1
          have d2 := (hc (C.nC - 1 - i) (by show C.nC - 1 - i < C.nC; omega)).2.2.1
          have d3 := (hc (C.nC - 1 - i) (by show C.nC - 1 - i < C.nC; omega)).2.2.2
          obtain ⟨m, hm⟩ : ∃ m : Nat, m = C.nC - 1 - i := ⟨_, rfl⟩
          rw [← hm] at d0 d1 d2 d3
          have hsn := rw4_snoc C i
          rw [← hm] at hsn
          have HSN := Lib.hid hsn
          have hw3 : IntKind.i64.wrap ((C.nC : Int) - 1) = (C.nC : Int) - 1 := by rw [IntKind.wrap_i64]; omega
          have hw2 : wrap64 ((C.nC : Int) - 1 - i) = (m : Int) := by unfold wrap64; omega
          have hw4 : IntKind.i64.wrap ((C.nC : Int) - 1 - i) = (m : Int) := by rw [IntKind.wrap_i64]; omega
          have hj1 : (0 : Int) ≤ (m : Int) := by omega
          have hj2 : (m : Int) < C.nC := by omega
          have hi8 : i ≤ 100 := by omega
          clear hsn hm
          clear hc
          obtain ⟨a1, k1, rfl, _⟩ := own_read HO.out
          obtain ⟨f0, f1, f2, f3, f4, f5⟩ := HOI.out.cellsD
          go_wp2_with fail
          go_region_law (first | (refine step_appK rfl _ _ _ rfl keC (.slice a1 i k1) i (val4 (rw4 C i)) rfl (by exact HO.out.alloc _) wr.heap.size #[.int .i64 (C.cf m), .int .i64 (C.ct m), .int .i64 (C.cc m), .int .i64 (C.cw m)] rfl (by exact ⟨_, _, bk_new wr _⟩) rfl (by intro u hu; simp at hu; rcases hu with rfl | rfl | rfl | rfl <;> rfl) (by omega) (by simp; omega) ?_; intro g cap w5 ho5 hb5 hg5; have hoi5 : OI C ⟨pP, cP, pW, cW, some ⟨b, o, none⟩, cC⟩ w w5 w1.heap.size v1 (.slice a1 i k1) := OI.app (W := (wr.alloc _)) (HOI.out.alloc _) ⟨hb5.os, hb5.tape, hb5.output, hb5.size, hb5.block⟩; obtain ⟨F0, F1, F2, F3, F4, F5⟩ := hoi5.cellsD; have hwr5 := own_grown (W := wr.alloc _) (HWR.out.alloc _) (HO.out.alloc _) (by decide) ⟨hg5.os, hg5.tape, hg5.output, hg5.size, hg5.block⟩))
          all_goals
            go_wp2_with fail
            exact ⟨⟨i + 1, _, by omega, by go_num, hoi5.set2 _, own_set (c := w1.heap.size) hwr5 (by omega) 2 _, by rw [HSN.out, val4_snoc]; exact own_set (c := w1.heap.size) ho5 (by omega) 2 _⟩, by simp [intOf]; omega⟩
        · obtain rfl : i = C.nC := by omega
          have hin' : ¬ (C.nC : Int) < C.nC := by omega
          go_wp2_with fail
          go_meet
          exact ⟨v, HOI.out, HWR.out, HO.out⟩
    case rest =>
      obtain ⟨v2, hoi3, hw3, hx3⟩ := hcut
      obtain ⟨a1, k1, rfl, _⟩ := own_read hw3
      obtain ⟨a2, k2, rfl, _⟩ := own_read hx3
      have hrev : IsC wc (revC C) ⟨pP, cP, a1, k1, a2, k2⟩ := own_revC hoi3.i.P hw3 hx3
      have HV3 := Lib.hid (show CV wc w.heap.size C pP cP pW cW pC cC from ⟨hoi3.h, hoi3.i⟩)
      have HR3 := Lib.hid (show CV wc w1.heap.size (revC C) pP cP a1 k1 a2 k2 from ⟨hoi3.d, hrev⟩)
      have HB3 := Lib.hid hoi3.b
      clear hoi3 hw3 hx3 hrev
      have hcd : ∀ (W : World), CV W w1.heap.size (revC C) pP cP a1 k1 a2 k2 → W.cell? ⟨w1.heap.size, 0, none⟩ = some (.slice pP C.nP cP) ∧ W.cell? ⟨w1.heap.size, 1, none⟩ = some (.slice a1 C.nW k1) ∧ W.cell? ⟨w1.heap.size, 2, none⟩ = some (.slice a2 C.nC k2) ∧ w1.heap.size < W.heap.size := fun W h => h.cells
      have HCD := Lib.hid hcd
      clear hcd
      by_cases hE : ckE C = 0
      · obtain ⟨_, q1⟩ := HPL.out hE
        rw [hE] at HP HPD
        clear HPL
        obtain ⟨y0, y1, y2, y3⟩ := HV3.out.cells
        go_wp2_with fail
        refine (HP.out _ HV3.out.i).mono ?_; rintro e w4 ⟨rfl, b4⟩
        have HB4 := Lib.hid (bstep HB3.out b4)
        have HV4 := Lib.hid (HV3.out.below b4)
        have HR4 := Lib.hid (HR3.out.below b4)
        clear b4 y0 y1 y2 y3 HV3 HR3 HB3
        obtain ⟨z0, z1, z2, z3⟩ := HCD.out _ HR4.out
        go_wp2_with fail
        refine (HPD.out _ _ _ _ _ HR4.out.i).mono ?_; rintro e w5 ⟨rfl, b5⟩
        have hb5 := bdrew (bstep HB4.out b5)
        have hv5 := (HV4.out.below b5).drew
        have hr5 := (HR4.out.below b5).drew
        clear b5 z0 z1 z2 z3 HV4 HR4 HB4
        obtain ⟨y0, y1, y2, _⟩ := hv5.cells
        obtain ⟨z0, z1, z2, _⟩ := HCD.out _ hr5
        have hiv := hv5.i
        have hir := hr5.i
        clear hv5 hr5
        have x0 : ((0 : Int) == 0) = true := by simp
        have x1 : (frE C == frE C) = true := by simp
        have x2 : (sameB C (revC C) == sameB C (revC C)) = true := by simp
        have HFE := Lib.hid fun (W : World) (h : IsC W (revC C) ⟨pP, cP, a1, k1, a2, k2⟩) => HFD.out a1 a2 k1 k2 W h
        have HSE := Lib.hid fun (W : World) (h : IsC W C ⟨pP, cP, pW, cW, pC, cC⟩) (h' : IsC W (revC C) ⟨pP, cP, a1, k1, a2, k2⟩) => HSD.out a1 a2 k1 k2 W h h'
        have HFX := Lib.hid fun (q r : Option Addr) (d k : Nat) (W : World) (h : IsC W C ⟨pP, cP, q, d, r, k⟩ ∨ IsC W (revC C) ⟨pP, cP, q, d, r, k⟩) => show Calls Try.prog 15 #[.agg #[.slice pP C.nP cP, .slice q C.nW d, .slice r C.nC k]] W fun e w' => e = .returned (.int .i64 (frE C)) ∧ Below W.heap.size W w' from h.elim (fun h => framesv h HNC.out) (fun h => HFD.out q r d k W h)
        clear HF HFE
        have q3 : ((putS C).size : Int) = (putS (revC C)).size := by omega
        have q4 : (((putS C).size : Int) == (putS (revC C)).size) = true := by simp [q3]
        clear hE HPD HFD HSD HP
        generalize frE C = F at *
        generalize putS C = S at *
        generalize putS (revC C) = T at *
        generalize sameB C (revC C) = X at *
        go_wp2_with fail
        go_region_held3 (fun W' => W'.cell? ⟨w.heap.size, 0, none⟩ = some (.slice pP C.nP cP) ∧ W'.cell? ⟨w.heap.size, 1, none⟩ = some (.slice pW C.nW cW) ∧ W'.cell? ⟨w.heap.size, 2, none⟩ = some (.slice pC C.nC cC) ∧ W'.cell? ⟨w1.heap.size, 0, none⟩ = some (.slice pP C.nP cP) ∧ W'.cell? ⟨w1.heap.size, 1, none⟩ = some (.slice a1 C.nW k1) ∧ W'.cell? ⟨w1.heap.size, 2, none⟩ = some (.slice a2 C.nC k2) ∧ IsC W' C ⟨pP, cP, pW, cW, pC, cC⟩ ∧ IsC W' (revC C) ⟨pP, cP, a1, k1, a2, k2⟩ ∧ Below w.heap.size w W')
          (first | ((try go_split_ands); (repeat' apply And.intro) <;> first | assumption | with_reducible first | exact keepc hb (by assumption) | exact IsC.below (by assumption) hb | exact bstep (by assumption) hb | trace_state))
          (first
            | (go_at_call 15; (try go_split_ands); refine (HFX.out _ _ _ _ _ (by first | exact .inl (by assumption) | exact .inr (by assumption))).mono ?_; rintro e1 w6 ⟨rfl, hb⟩)
            | (go_at_call 17; (try go_split_ands); refine (HSE.out _ (by assumption) (by assumption)).mono ?_; rintro e1 w6 ⟨rfl, hb⟩)
            | (go_at_call 10; refine (awake_any _).mono ?_; rintro e1 w6 ⟨rfl, hb⟩))
        all_goals
          (try go_split_ands)
          go_wp2
          go_ret
          exact ⟨by simp, by assumption⟩
      · obtain ⟨y0, y1, y2, y3⟩ := HV3.out.cells
        go_wp2_with fail
        refine (HP.out _ HV3.out.i).mono ?_; rintro e w4 ⟨rfl, b4⟩
        have HB4 := Lib.hid (bstep HB3.out b4)
        have HV4 := Lib.hid (HV3.out.below b4)
        have HR4 := Lib.hid (HR3.out.below b4)
        clear b4 y0 y1 y2 y3 HV3 HR3 HB3
        obtain ⟨z0, z1, z2, z3⟩ := HCD.out _ HR4.out
        go_wp2_with fail
        refine (HPD.out _ _ _ _ _ HR4.out.i).mono ?_; rintro e w5 ⟨rfl, b5⟩
        have hb5 := bdrew (bstep HB4.out b5)
        have hv5 := (HV4.out.below b5).drew
        have hr5 := (HR4.out.below b5).drew
        clear b5 z0 z1 z2 z3 HV4 HR4 HB4
        obtain ⟨y0, y1, y2, _⟩ := hv5.cells
        obtain ⟨z0, z1, z2, _⟩ := HCD.out _ hr5
        have hiv := hv5.i
        have hir := hr5.i
        clear hv5 hr5
        have x0 : (ckE C == ckE C) = true := by simp
        have x1 : (frE C == frE C) = true := by simp
        have x2 : (sameB C (revC C) == sameB C (revC C)) = true := by simp
        have HFE := Lib.hid fun (W : World) (h : IsC W (revC C) ⟨pP, cP, a1, k1, a2, k2⟩) => HFD.out a1 a2 k1 k2 W h
        have HSE := Lib.hid fun (W : World) (h : IsC W C ⟨pP, cP, pW, cW, pC, cC⟩) (h' : IsC W (revC C) ⟨pP, cP, a1, k1, a2, k2⟩) => HSD.out a1 a2 k1 k2 W h h'
        have HFX := Lib.hid fun (q r : Option Addr) (d k : Nat) (W : World) (h : IsC W C ⟨pP, cP, q, d, r, k⟩ ∨ IsC W (revC C) ⟨pP, cP, q, d, r, k⟩) => show Calls Try.prog 15 #[.agg #[.slice pP C.nP cP, .slice q C.nW d, .slice r C.nC k]] W fun e w' => e = .returned (.int .i64 (frE C)) ∧ Below W.heap.size W w' from h.elim (fun h => framesv h HNC.out) (fun h => HFD.out q r d k W h)
        clear HF HFE
        have q1 : (ckE C != 0) = true := by simpa using hE
        have q2 : (ckE C == 0) = false := by simpa using hE
        clear hE HPL HPD HFD HSD HP
        generalize frE C = F at *
        generalize ckE C = EE at *
        generalize putS C = S at *
        generalize putS (revC C) = T at *
        go_wp2_with fail
        clear HNC HLC
        refine wp_region_held_drew (S := (fun W' => W'.cell? ⟨w.heap.size, 0, none⟩ = some (.slice pP C.nP cP) ∧ W'.cell? ⟨w.heap.size, 1, none⟩ = some (.slice pW C.nW cW) ∧ W'.cell? ⟨w.heap.size, 2, none⟩ = some (.slice pC C.nC cC) ∧ W'.cell? ⟨w1.heap.size, 0, none⟩ = some (.slice pP C.nP cP) ∧ W'.cell? ⟨w1.heap.size, 1, none⟩ = some (.slice a1 C.nW k1) ∧ W'.cell? ⟨w1.heap.size, 2, none⟩ = some (.slice a2 C.nC k2) ∧ IsC W' C ⟨pP, cP, pW, cW, pC, cC⟩ ∧ IsC W' (revC C) ⟨pP, cP, a1, k1, a2, k2⟩ ∧ Below w.heap.size w W')) (by kernel_rfl) ?_ (fun hHeld => ?_)
        · (try dsimp only); (first | ((try go_split_ands); (repeat' apply And.intro) <;> first | assumption | with_reducible first | exact keepc hb (by assumption) | exact IsC.below (by assumption) hb | exact bstep (by assumption) hb))
        refine wpAnyH_take (i := 0) (v := ?_) rfl (by kernel_rfl) (by kernel_rfl) (by kernel_rfl) (fun _ _ _ h => h) (Or.inl ⟨by rfl, ?_⟩) (by assumption) ?_
        rotate_left
        · intro W hSw; (try dsimp only at hSw); (try simp only [List.getElem_toArray, List.getElem_cons_succ, List.getElem_cons_zero]); go_simp; try with_reducible rfl
        try simp only [Act.put, List.setIfInBounds_toArray, List.set_cons_zero, List.set_cons_succ, List.getElem_toArray, List.getElem_cons_succ, List.getElem_cons_zero]
        refine wpAnyH_take (i := 1) (v := ?_) rfl (by kernel_rfl) (by kernel_rfl) (by kernel_rfl) (fun _ _ _ h => h) (Or.inl ⟨by rfl, ?_⟩) (by assumption) ?_
        rotate_left
        · intro W hSw; (try dsimp only at hSw); (try simp only [List.getElem_toArray, List.getElem_cons_succ, List.getElem_cons_zero]); go_simp; try with_reducible rfl
        try simp only [Act.put, List.setIfInBounds_toArray, List.set_cons_zero, List.set_cons_succ, List.getElem_toArray, List.getElem_cons_succ, List.getElem_cons_zero]
        refine wpAnyH_take (i := 2) (v := ?_) rfl (by kernel_rfl) (by kernel_rfl) (by kernel_rfl) (fun _ _ _ h => h) (Or.inl ⟨by rfl, ?_⟩) (by assumption) ?_
        rotate_left
        · intro W hSw; (try dsimp only at hSw); (try simp only [List.getElem_toArray, List.getElem_cons_succ, List.getElem_cons_zero]); go_simp; try with_reducible rfl
        try simp only [Act.put, List.setIfInBounds_toArray, List.set_cons_zero, List.set_cons_succ, List.getElem_toArray, List.getElem_cons_succ, List.getElem_cons_zero]
        refine wpAnyH_take (i := 3) (v := ?_) rfl (by kernel_rfl) (by kernel_rfl) (by kernel_rfl) (fun _ _ _ h => h) (Or.inl ⟨by rfl, ?_⟩) (by assumption) ?_
        rotate_left
        · intro W hSw; (try dsimp only at hSw); (try simp only [List.getElem_toArray, List.getElem_cons_succ, List.getElem_cons_zero]); go_simp; try with_reducible rfl
        try simp only [Act.put, List.setIfInBounds_toArray, List.set_cons_zero, List.set_cons_succ, List.getElem_toArray, List.getElem_cons_succ, List.getElem_cons_zero]
        refine wpAnyH_take (i := 4) (v := ?_) rfl (by kernel_rfl) (by kernel_rfl) (by kernel_rfl) (fun _ _ _ h => h) (Or.inl ⟨by rfl, ?_⟩) (by assumption) ?_
        rotate_left
        · intro W hSw; (try dsimp only at hSw); (try simp only [List.getElem_toArray, List.getElem_cons_succ, List.getElem_cons_zero]); go_simp; try with_reducible rfl
        try simp only [Act.put, List.setIfInBounds_toArray, List.set_cons_zero, List.set_cons_succ, List.getElem_toArray, List.getElem_cons_succ, List.getElem_cons_zero]
        refine wpAnyH_take (i := 6) (v := ?_) rfl (by kernel_rfl) (by kernel_rfl) (by kernel_rfl) (fun _ _ _ h => h) (Or.inl ⟨by rfl, ?_⟩) (by assumption) ?_
        rotate_left
        · intro W hSw; (try dsimp only at hSw); (try simp only [List.getElem_toArray, List.getElem_cons_succ, List.getElem_cons_zero]); go_simp; try with_reducible rfl
        try simp only [Act.put, List.setIfInBounds_toArray, List.set_cons_zero, List.set_cons_succ, List.getElem_toArray, List.getElem_cons_succ, List.getElem_cons_zero]
        refine wpAnyH_ready (rs := [5]) (by kernel_rfl) (by simp) ?_
        refine AllReadyH.cons rfl (fun K hK => ?_) AllReadyH.nil
        try simp only [List.getElem_toArray, List.getElem_cons_succ, List.getElem_cons_zero]
        go_simp
        go_at_call 15
        (try go_split_ands)
        refine (HFX.out _ _ _ _ _ (by first | exact .inl (by assumption) | exact .inr (by assumption))).mono ?_
        rintro e1 w6 ⟨rfl, hb⟩
        (try go_wp2_with fail)
        refine hK.out _ _ ?_ (fun hHeld => ?_)
        · (try dsimp only); (first | ((try go_split_ands); (repeat' apply And.intro) <;> first | assumption | with_reducible first | exact keepc hb (by assumption) | exact IsC.below (by assumption) hb | exact bstep (by assumption) hb))
        clear hK K
        try simp only [Act.put, List.setIfInBounds_toArray, List.set_cons_zero, List.set_cons_succ, List.getElem_toArray, List.getElem_cons_succ, List.getElem_cons_zero]
        refine wpAnyH_ready (rs := [7]) (by kernel_rfl) (by simp) ?_
        refine AllReadyH.cons rfl (fun K hK => ?_) AllReadyH.nil
        try simp only [List.getElem_toArray, List.getElem_cons_succ, List.getElem_cons_zero]
        go_simp
        go_at_call 15
        (try go_split_ands)
        refine (HFX.out _ _ _ _ _ (by first | exact .inl (by assumption) | exact .inr (by assumption))).mono ?_
        rintro e1 w6 ⟨rfl, hb⟩
        (try go_wp2_with fail)
        refine hK.out _ _ ?_ (fun hHeld => ?_)
        · (try dsimp only); (first | ((try go_split_ands); (repeat' apply And.intro) <;> first | assumption | with_reducible first | exact keepc hb (by assumption) | exact IsC.below (by assumption) hb | exact bstep (by assumption) hb))
        clear hK K
        try simp only [Act.put, List.setIfInBounds_toArray, List.set_cons_zero, List.set_cons_succ, List.getElem_toArray, List.getElem_cons_succ, List.getElem_cons_zero]
        refine wpAnyH_take (i := 8) (v := ?_) rfl (by kernel_rfl) (by kernel_rfl) (by kernel_rfl) (fun _ _ _ h => h) (Or.inl ⟨by rfl, ?_⟩) (by assumption) ?_
        rotate_left
        · intro W hSw; (try dsimp only at hSw); (try simp only [List.getElem_toArray, List.getElem_cons_succ, List.getElem_cons_zero]); go_simp; try with_reducible rfl
        try simp only [Act.put, List.setIfInBounds_toArray, List.set_cons_zero, List.set_cons_succ, List.getElem_toArray, List.getElem_cons_succ, List.getElem_cons_zero]
        refine wpAnyH_take (i := 9) (v := ?_) rfl (by kernel_rfl) (by kernel_rfl) (by kernel_rfl) (fun _ _ _ h => h) (Or.inl ⟨by rfl, ?_⟩) (by assumption) ?_
        rotate_left
        · intro W hSw; (try dsimp only at hSw); (try simp only [List.getElem_toArray, List.getElem_cons_succ, List.getElem_cons_zero]); go_simp; try with_reducible rfl
        try simp only [Act.put, List.setIfInBounds_toArray, List.set_cons_zero, List.set_cons_succ, List.getElem_toArray, List.getElem_cons_succ, List.getElem_cons_zero]
        refine wpAnyH_take (i := 10) (v := ?_) rfl (by kernel_rfl) (by kernel_rfl) (by kernel_rfl) (fun _ _ _ h => h) (Or.inl ⟨by rfl, ?_⟩) (by assumption) ?_
        rotate_left
        · intro W hSw; (try dsimp only at hSw); (try simp only [List.getElem_toArray, List.getElem_cons_succ, List.getElem_cons_zero]); go_simp; try with_reducible rfl
        try simp only [Act.put, List.setIfInBounds_toArray, List.set_cons_zero, List.set_cons_succ, List.getElem_toArray, List.getElem_cons_succ, List.getElem_cons_zero]
        refine wpAnyH_take (i := 11) (v := ?_) rfl (by kernel_rfl) (by kernel_rfl) (by kernel_rfl) (fun _ _ _ h => h) (Or.inl ⟨by rfl, ?_⟩) (by assumption) ?_
        rotate_left
        · intro W hSw; (try dsimp only at hSw); (try simp only [List.getElem_toArray, List.getElem_cons_succ, List.getElem_cons_zero]); go_simp; try with_reducible rfl
        try simp only [Act.put, List.setIfInBounds_toArray, List.set_cons_zero, List.set_cons_succ, List.getElem_toArray, List.getElem_cons_succ, List.getElem_cons_zero]
        refine wpAnyH_take (i := 12) (v := ?_) rfl (by kernel_rfl) (by kernel_rfl) (by kernel_rfl) (fun _ _ _ h => h) (Or.inl ⟨by rfl, ?_⟩) (by assumption) ?_
        rotate_left
        · intro W hSw; (try dsimp only at hSw); (try simp only [List.getElem_toArray, List.getElem_cons_succ, List.getElem_cons_zero]); go_simp; try with_reducible rfl
        try simp only [Act.put, List.setIfInBounds_toArray, List.set_cons_zero, List.set_cons_succ, List.getElem_toArray, List.getElem_cons_succ, List.getElem_cons_zero]
        refine wpAnyH_take (i := 13) (v := ?_) rfl (by kernel_rfl) (by kernel_rfl) (by kernel_rfl) (fun _ _ _ h => h) (Or.inl ⟨by rfl, ?_⟩) (by assumption) ?_
        rotate_left
        · intro W hSw; (try dsimp only at hSw); (try simp only [List.getElem_toArray, List.getElem_cons_succ, List.getElem_cons_zero]); go_simp; try with_reducible rfl
        try simp only [Act.put, List.setIfInBounds_toArray, List.set_cons_zero, List.set_cons_succ, List.getElem_toArray, List.getElem_cons_succ, List.getElem_cons_zero]
        refine wpAnyH_take (i := 14) (v := undef) rfl (by kernel_rfl) (by kernel_rfl) (by kernel_rfl) (fun _ _ _ h => h) (Or.inr ⟨by rfl, rfl⟩) (by assumption) ?_
        try simp only [Act.put, List.setIfInBounds_toArray, List.set_cons_zero, List.set_cons_succ, List.getElem_toArray, List.getElem_cons_succ, List.getElem_cons_zero]
        refine wpAnyH_take (i := 15) (v := undef) rfl (by kernel_rfl) (by kernel_rfl) (by kernel_rfl) (fun _ _ _ h => h) (Or.inr ⟨by rfl, rfl⟩) (by assumption) ?_
        try simp only [Act.put, List.setIfInBounds_toArray, List.set_cons_zero, List.set_cons_succ, List.getElem_toArray, List.getElem_cons_succ, List.getElem_cons_zero]
        refine wpAnyH_take (i := 16) (v := undef) rfl (by kernel_rfl) (by kernel_rfl) (by kernel_rfl) (fun _ _ _ h => h) (Or.inr ⟨by rfl, rfl⟩) (by assumption) ?_
        try simp only [Act.put, List.setIfInBounds_toArray, List.set_cons_zero, List.set_cons_succ, List.getElem_toArray, List.getElem_cons_succ, List.getElem_cons_zero]
        refine wpAnyH_take (i := 17) (v := undef) rfl (by kernel_rfl) (by kernel_rfl) (by kernel_rfl) (fun _ _ _ h => h) (Or.inr ⟨by rfl, rfl⟩) (by assumption) ?_
        try simp only [Act.put, List.setIfInBounds_toArray, List.set_cons_zero, List.set_cons_succ, List.getElem_toArray, List.getElem_cons_succ, List.getElem_cons_zero]
        refine wpAnyH_take (i := 18) (v := undef) rfl (by kernel_rfl) (by kernel_rfl) (by kernel_rfl) (fun _ _ _ h => h) (Or.inr ⟨by rfl, rfl⟩) (by assumption) ?_
        try simp only [Act.put, List.setIfInBounds_toArray, List.set_cons_zero, List.set_cons_succ, List.getElem_toArray, List.getElem_cons_succ, List.getElem_cons_zero]
        refine wpAnyH_take (i := 19) (v := undef) rfl (by kernel_rfl) (by kernel_rfl) (by kernel_rfl) (fun _ _ _ h => h) (Or.inr ⟨by rfl, rfl⟩) (by assumption) ?_
        try simp only [Act.put, List.setIfInBounds_toArray, List.set_cons_zero, List.set_cons_succ, List.getElem_toArray, List.getElem_cons_succ, List.getElem_cons_zero]
        refine wpAnyH_take (i := 20) (v := undef) rfl (by kernel_rfl) (by kernel_rfl) (by kernel_rfl) (fun _ _ _ h => h) (Or.inr ⟨by rfl, rfl⟩) (by assumption) ?_
        try simp only [Act.put, List.setIfInBounds_toArray, List.set_cons_zero, List.set_cons_succ, List.getElem_toArray, List.getElem_cons_succ, List.getElem_cons_zero]
        refine wpAnyH_take (i := 21) (v := undef) rfl (by kernel_rfl) (by kernel_rfl) (by kernel_rfl) (fun _ _ _ h => h) (Or.inr ⟨by rfl, rfl⟩) (by assumption) ?_
        try simp only [Act.put, List.setIfInBounds_toArray, List.set_cons_zero, List.set_cons_succ, List.getElem_toArray, List.getElem_cons_succ, List.getElem_cons_zero]
        refine wpAnyH_take (i := 22) (v := undef) rfl (by kernel_rfl) (by kernel_rfl) (by kernel_rfl) (fun _ _ _ h => h) (Or.inr ⟨by rfl, rfl⟩) (by assumption) ?_
        try simp only [Act.put, List.setIfInBounds_toArray, List.set_cons_zero, List.set_cons_succ, List.getElem_toArray, List.getElem_cons_succ, List.getElem_cons_zero]
        refine wpAnyH_take (i := 23) (v := undef) rfl (by kernel_rfl) (by kernel_rfl) (by kernel_rfl) (fun _ _ _ h => h) (Or.inr ⟨by rfl, rfl⟩) (by assumption) ?_
        try simp only [Act.put, List.setIfInBounds_toArray, List.set_cons_zero, List.set_cons_succ, List.getElem_toArray, List.getElem_cons_succ, List.getElem_cons_zero]
        refine wpAnyH_take (i := 24) (v := undef) rfl (by kernel_rfl) (by kernel_rfl) (by kernel_rfl) (fun _ _ _ h => h) (Or.inr ⟨by rfl, rfl⟩) (by assumption) ?_
        try simp only [Act.put, List.setIfInBounds_toArray, List.set_cons_zero, List.set_cons_succ, List.getElem_toArray, List.getElem_cons_succ, List.getElem_cons_zero]
        refine wpAnyH_take (i := 25) (v := undef) rfl (by kernel_rfl) (by kernel_rfl) (by kernel_rfl) (fun _ _ _ h => h) (Or.inr ⟨by rfl, rfl⟩) (by assumption) ?_
        try simp only [Act.put, List.setIfInBounds_toArray, List.set_cons_zero, List.set_cons_succ, List.getElem_toArray, List.getElem_cons_succ, List.getElem_cons_zero]
        refine wpAnyH_take (i := 26) (v := undef) rfl (by kernel_rfl) (by kernel_rfl) (by kernel_rfl) (fun _ _ _ h => h) (Or.inr ⟨by rfl, rfl⟩) (by assumption) ?_
        try simp only [Act.put, List.setIfInBounds_toArray, List.set_cons_zero, List.set_cons_succ, List.getElem_toArray, List.getElem_cons_succ, List.getElem_cons_zero]
        refine wpAnyH_take (i := 27) (v := undef) rfl (by kernel_rfl) (by kernel_rfl) (by kernel_rfl) (fun _ _ _ h => h) (Or.inr ⟨by rfl, rfl⟩) (by assumption) ?_
        try simp only [Act.put, List.setIfInBounds_toArray, List.set_cons_zero, List.set_cons_succ, List.getElem_toArray, List.getElem_cons_succ, List.getElem_cons_zero]
        refine wpAnyH_take (i := 28) (v := ?_) rfl (by kernel_rfl) (by kernel_rfl) (by kernel_rfl) (fun _ _ _ h => h) (Or.inl ⟨by rfl, ?_⟩) (by assumption) ?_
        rotate_left
        · intro W hSw; (try dsimp only at hSw); (try simp only [List.getElem_toArray, List.getElem_cons_succ, List.getElem_cons_zero]); go_simp; try with_reducible rfl
        try simp only [Act.put, List.setIfInBounds_toArray, List.set_cons_zero, List.set_cons_succ, List.getElem_toArray, List.getElem_cons_succ, List.getElem_cons_zero]
        refine wpAnyH_take (i := 29) (v := ?_) rfl (by kernel_rfl) (by kernel_rfl) (by kernel_rfl) (fun _ _ _ h => h) (Or.inl ⟨by rfl, ?_⟩) (by assumption) ?_
        rotate_left
        · intro W hSw; (try dsimp only at hSw); (try simp only [List.getElem_toArray, List.getElem_cons_succ, List.getElem_cons_zero]); go_simp; try with_reducible rfl
        try simp only [Act.put, List.setIfInBounds_toArray, List.set_cons_zero, List.set_cons_succ, List.getElem_toArray, List.getElem_cons_succ, List.getElem_cons_zero]
        refine wpAnyH_take (i := 30) (v := ?_) rfl (by kernel_rfl) (by kernel_rfl) (by kernel_rfl) (fun _ _ _ h => h) (Or.inl ⟨by rfl, ?_⟩) (by assumption) ?_
        rotate_left
        · intro W hSw; (try dsimp only at hSw); (try simp only [List.getElem_toArray, List.getElem_cons_succ, List.getElem_cons_zero]); go_simp; try with_reducible rfl
        try simp only [Act.put, List.setIfInBounds_toArray, List.set_cons_zero, List.set_cons_succ, List.getElem_toArray, List.getElem_cons_succ, List.getElem_cons_zero]
        refine wpAnyH_ready (rs := [31]) (by kernel_rfl) (by simp) ?_
        refine AllReadyH.cons rfl (fun K hK => ?_) AllReadyH.nil
        try simp only [List.getElem_toArray, List.getElem_cons_succ, List.getElem_cons_zero]
        go_simp
        go_at_call 10
        (try go_split_ands)
        refine (awake_any _).mono ?_
        rintro e1 w6 ⟨rfl, hb⟩
        (try go_wp2_with fail)
        refine hK.out _ _ ?_ (fun hHeld => ?_)
        · (try dsimp only); (first | ((try go_split_ands); (repeat' apply And.intro) <;> first | assumption | with_reducible first | exact keepc hb (by assumption) | exact IsC.below (by assumption) hb | exact bstep (by assumption) hb))
        clear hK K
        try simp only [Act.put, List.setIfInBounds_toArray, List.set_cons_zero, List.set_cons_succ, List.getElem_toArray, List.getElem_cons_succ, List.getElem_cons_zero]
        refine wpAnyH_take (i := 32) (v := ?_) rfl (by kernel_rfl) (by kernel_rfl) (by kernel_rfl) (fun _ _ _ h => h) (Or.inl ⟨by rfl, ?_⟩) (by assumption) ?_
        rotate_left
        · intro W hSw; (try dsimp only at hSw); (try simp only [List.getElem_toArray, List.getElem_cons_succ, List.getElem_cons_zero]); go_simp; try with_reducible rfl
        try simp only [Act.put, List.setIfInBounds_toArray, List.set_cons_zero, List.set_cons_succ, List.getElem_toArray, List.getElem_cons_succ, List.getElem_cons_zero]
        refine wpAnyH_take (i := 33) (v := ?_) rfl (by kernel_rfl) (by kernel_rfl) (by kernel_rfl) (fun _ _ _ h => h) (Or.inl ⟨by rfl, ?_⟩) (by assumption) ?_
        rotate_left
        · intro W hSw; (try dsimp only at hSw); (try simp only [List.getElem_toArray, List.getElem_cons_succ, List.getElem_cons_zero]); go_simp; try with_reducible rfl
        try simp only [Act.put, List.setIfInBounds_toArray, List.set_cons_zero, List.set_cons_succ, List.getElem_toArray, List.getElem_cons_succ, List.getElem_cons_zero]
        refine wpAnyH_done (by kernel_rfl) ?_ _
        all_goals
          (try go_split_ands)
          go_wp2
          go_ret
          exact ⟨by simp, by assumption⟩
theorem ConfOrder_any (C : Cfg) (l : Lay) (w : World) (hI : IsC w C l) :
    Calls Try.prog 8 #[.agg (cfgV C l)] w fun e w' => e = .returned (.bool true) ∧ Below w.heap.size w w' := by
  cases hl : longB C with
  | true => exact ord_long C l w hl
  | false => exact ord_short C l w hI hl
end Go.Proofs.Ythgoighpmnecbaa
