/- Helper text of this seat (ZGrow): contracts of functions of the given program and of its references, and the laws' plain parts, each told by its theorem. Conditions: as each theorem names them. -/
import Derived.Test.YthgoighpmnecbaaZPut
import Derived.Test.YthgoighpmnecbaaZA
import Derived.Deep.RegionHeld3
import Derived.Deep.CutBlock
import Derived.Deep.DeepCutAuto
namespace Go.Proofs.Ythgoighpmnecbaa
open Go.RowKit
set_option linter.unusedVariables false
set_option linter.unusedSimpArgs false
def growC (C : Cfg) (p : Nat) : Cfg := { C with q := fun i => if i = p then C.q p + 1 else C.q i }
theorem grow_num {C : Cfg} {p : Nat} (h : NumOk C) (hq : C.q p < 256) : NumOk (growC C p) := by
  obtain ⟨a, b, c, d, e⟩ := h
  refine ⟨a, fun i hi => ?_, c, d, e⟩
  have h1 := b i hi
  show (inB (if i = p then C.q p + 1 else C.q i) 4 256 && inB (C.s i) 1 8) = true
  by_cases hip : i = p
  · subst hip
    simp only [okP, inB, Bool.and_eq_true, decide_eq_true_eq] at h1
    simp only [if_true, inB, Bool.and_eq_true, decide_eq_true_eq]
    omega
  · rw [if_neg hip]
    exact h1
theorem grow_not {C : Cfg} {p : Nat} (hp : p < C.nP) (h : NumOk (growC C p)) : C.q p < 256 := by
  have h1 := h.P (i := p) hp
  have : (growC C p).q p = C.q p + 1 := if_pos rfl
  omega
theorem sumF_bump {f g : Nat → Int} {p : Nat} (h : ∀ i, g i = f i + if i = p then 1 else 0) : ∀ n, sumF g n = sumF f n + if p < n then 1 else 0
  | 0 => by simp [sumF]
  | n + 1 => by
    simp only [sumF, sumF_bump h n, h n]
    by_cases h1 : p < n
    · have : p < n + 1 := by omega
      have h2 : ¬ n = p := by omega
      simp only [h1, this, h2, if_true, if_false]
      omega
    · by_cases h2 : n = p
      · have : p < n + 1 := by omega
        simp only [h1, h2, this, if_true, if_false]
        subst h2
        simp
        omega
      · have : ¬ p < n + 1 := by omega
        simp only [h1, h2, this, if_false]
        omega
theorem grow_fr {C : Cfg} {p : Nat} (hp : p < C.nP) (h : NumOk C) (hq : C.q p < 256) : frE (growC C p) = frE C + 1 := by
  rw [frE_ok h, frE_ok (grow_num h hq)]
  have h1 : sumF (fP (growC C p)) C.nP = sumF (fP C) C.nP + 1 := by
    have := sumF_bump (f := fP C) (g := fP (growC C p)) (p := p) (fun i => by
      unfold fP
      show (if i = p then C.q p + 1 else C.q i) + (C.s i + 2) / 3 = _
      by_cases hip : i = p
      · subst hip; simp; omega
      · simp [hip]) C.nP
    rw [if_pos hp] at this
    exact this
  show sumF (fP (growC C p)) C.nP + sumF (fC C) C.nC = _
  rw [h1]
  omega
theorem grow_same {C : Cfg} {p : Nat} (hp : p < C.nP) : sameB C (growC C p) = false := by
  cases h : sameB C (growC C p) with
  | false => rfl
  | true =>
    have := ((same_parts h).2.2.2.1 p hp).1
    have h2 : (growC C p).q p = C.q p + 1 := if_pos rfl
    omega
theorem grow_ck {C : Cfg} {p : Nat} (hp : p < C.nP) (h : CkOk C) : (ckE (growC C p) = 2 ∧ C.q p = 256) ∨ ((ckE (growC C p) == 2) = false ∧ frE (growC C p) = frE C + 1 ∧ (ckE (growC C p) == 0) = decide (frE (growC C p) ≤ 1024)) := by
  by_cases hq : C.q p < 256
  · right
    have hn := grow_num (p := p) h.1 hq
    have hf := grow_fr hp h.1 hq
    by_cases g : frE (growC C p) ≤ 1024
    · have := ckE_ok ⟨hn, g⟩
      rw [this]
      exact ⟨rfl, hf, (decide_eq_true g).symm⟩
    · have := ckE_full hn (by omega)
      rw [this]
      exact ⟨rfl, hf, (decide_eq_false g).symm⟩
  · left
    have h1 := (h.1.P hp).2.1
    exact ⟨ckE_bad fun hn => hq (grow_not hp hn), by omega⟩
end Go.Proofs.Ythgoighpmnecbaa
namespace Go.Proofs.Ythgoighpmnecbaa
open Go.RowKit
set_option linter.unusedVariables false
set_option linter.unusedSimpArgs false
def two2 (X Y : Nat → Int) (i r : Nat) : Value := if r = 0 then .int .i64 (X i) else .int .i64 (Y i)
theorem two2_one (X Y : Nat → Int) (i r : Nat) : (two2 X Y i r).oneCell' = true := by unfold two2; split <;> rfl
theorem Sl2.flat {w : World} {p : Option Addr} {n : Nat} {X Y : Nat → Int} (h : Sl2 w p n X Y) : SlF w 2 p n (two2 X Y) := by
  rcases h with h | ⟨b, o, e, hc⟩
  · exact .inl h
  · refine .inr ⟨b, o, e, fun i hi r hr => ?_⟩
    match r, hr with
    | 0, _ => exact (hc i hi).1
    | 1, _ => exact (hc i hi).2
theorem ownF_blk {w : World} {B : Nat} {e k g c : Nat} {n : Nat} {xs : List Value} (h : w.ownsRow B e k (.slice (some ⟨g, 0, none⟩) n c) n xs) : ∃ cur, w.heap[g]? = some (.cells cur e (0, 0)) ∧ n * k ≤ cur.size := by
  obtain ⟨_, h⟩ := h
  rcases h with ⟨h, _⟩ | ⟨g', cap, cur, e1, hb, hg, hn, hm, hs, ht⟩
  · cases h
  · simp only [Value.slice.injEq, Option.some.injEq, Addr.mk.injEq, and_true, true_and] at e1
    obtain ⟨rfl, rfl⟩ := e1
    exact ⟨cur, hg, by rw [hs]; exact Nat.mul_le_mul_right k hn⟩
theorem Sl2.kept0 {w W W' : World} {a : Option Addr} {n g : Nat} {X Y : Nat → Int} (h0 : Sl2 w a n X Y) (h : Sl2 W a n X Y) (hk : Kept g W W') (hg : w.heap.size ≤ g) : Sl2 W' a n X Y := by
  rcases h with h | ⟨b, o, rfl, hc⟩
  · exact .inl h
  · by_cases hn : n = 0
    · exact .inl hn
    · rcases h0 with h0 | ⟨b', o', e, hc'⟩
      · exact .inl h0
      · simp only [Option.some.injEq, Addr.mk.injEq, and_true] at e
        obtain ⟨rfl, rfl⟩ := e
        have hlt : b < w.heap.size := block_lt_of_cell (hc' 0 (by omega)).1
        exact .inr ⟨b, o, rfl, fun i hi => ⟨hk.cell (hc i hi).1 (by omega), hk.cell (hc i hi).2 (by omega)⟩⟩
theorem Sl4.kept0 {w W W' : World} {a : Option Addr} {n g : Nat} {X Y Z U : Nat → Int} (h0 : Sl4 w a n X Y Z U) (h : Sl4 W a n X Y Z U) (hk : Kept g W W') (hg : w.heap.size ≤ g) : Sl4 W' a n X Y Z U := by
  rcases h with h | ⟨b, o, rfl, hc⟩
  · exact .inl h
  · by_cases hn : n = 0
    · exact .inl hn
    · rcases h0 with h0 | ⟨b', o', e, hc'⟩
      · exact .inl h0
      · simp only [Option.some.injEq, Addr.mk.injEq, and_true] at e
        obtain ⟨rfl, rfl⟩ := e
        have hlt : b < w.heap.size := block_lt_of_cell (hc' 0 (by omega)).1
        exact .inr ⟨b, o, rfl, fun i hi => ⟨hk.cell (hc i hi).1 (by omega), hk.cell (hc i hi).2.1 (by omega), hk.cell (hc i hi).2.2.1 (by omega), hk.cell (hc i hi).2.2.2 (by omega)⟩⟩
theorem IsC.kept0 {w W W' : World} {C : Cfg} {l : Lay} {g : Nat} (h : IsC W C l) (h0 : IsC w C l) (hk : Kept g W W') (hg : w.heap.size ≤ g) : IsC W' C l := ⟨h0.P.kept0 h.P hk hg, h0.W.kept0 h.W hk hg, h0.C.kept0 h.C hk hg⟩
theorem cell_at {w : World} {g i j : Nat} {u : Value} (h : w.cell? ⟨g, i, none⟩ = some u) (hij : i ≠ j) {v : Value} : (w.setCell ⟨g, j, none⟩ v).cell? ⟨g, i, none⟩ = some u := by
  rw [← h]
  simp [go_sem, hij]
theorem cell_drew {w : World} {a : Addr} {v : Value} (h : w.cell? a = some v) : w.drew.cell? a = some v := h
/-- where nothing is asked -/
theorem grow_out (C : Cfg) (l : Lay) (n : Int) (w : World) (hI : IsC w C l) (h : longB C = true ∨ ckE C ≠ 0 ∨ n < 0 ∨ (C.nP : Int) ≤ n) :
    Calls Try.prog 7 #[.agg (cfgV C l), .int .i64 n] w fun e w' => e = .returned (.bool true) ∧ Below w.heap.size w w' := by
  obtain ⟨pP, cP, pW, cW, pC, cC⟩ := l
  have HI := Lib.hid hI
  have HLC := Lib.hid fun (W : World) => longv (C := C) (p := pP) (q := pW) (r := pC) (c := cP) (d := cW) (k := cC) (w := W)
  have HU := Lib.hid (show cfgV C ⟨pP, cP, pW, cW, pC, cC⟩ = #[.slice pP C.nP cP, .slice pW C.nW cW, .slice pC C.nC cC] from rfl)
  rw [HU.out]
  clear HU hI
  cases hlC : longB C with
  | true =>
    rw [hlC] at HLC
    clear hlC h
    go_enter Try.func7, Try.ntmps7
    go_wp2_with fail
    refine (HLC.out _).mono ?_; rintro e w1 ⟨rfl, b1⟩
    have HB1 := Lib.hid (bstep (a := w) (by go_grown) b1)
    clear b1
    go_wp2_with fail
    refine (awake_any _).mono ?_; rintro e w2 ⟨rfl, b2⟩
    go_wp2
    go_ret
    exact ⟨rfl, bstep HB1.out b2⟩
  | false =>
    have hNC := short_hN hlC
    have HK := Lib.hid fun (W : World) (h : IsC W C ⟨pP, cP, pW, cW, pC, cC⟩) => checkv h hNC
    rw [hlC] at HLC h
    clear hlC hNC
    generalize ckE C = E at *
    by_cases hE : E = 0
    · subst hE
      have h2 : n < 0 ∨ (¬ n < 0 ∧ (C.nP : Int) ≤ n) := by
        rcases h with h | h | h | h
        · cases h
        · exact absurd rfl h
        · exact .inl h
        · omega
      clear h
      rcases h2 with h2 | ⟨h2, h3⟩
      · go_enter Try.func7, Try.ntmps7
        go_wp2_with fail
        refine (HLC.out _).mono ?_; rintro e w1 ⟨rfl, b1⟩
        have HB1 := Lib.hid (bstep (a := w) (by go_grown) b1)
        have HV := Lib.hid (show CV w1 w.heap.size C pP cP pW cW pC cC from ⟨bk_below (bk_new w _) b1, HI.out.below HB1.out⟩)
        clear b1
        obtain ⟨y0, y1, y2, y3⟩ := HV.out.cells
        go_wp2_with fail
        refine (HK.out _ HV.out.i).mono ?_; rintro e w2 ⟨rfl, b2⟩
        have HB2 := Lib.hid (bstep HB1.out b2)
        clear b2 y0 y1 y2 y3
        go_wp2_with fail
        refine (awake_any _).mono ?_; rintro e w3 ⟨rfl, b3⟩
        go_wp2
        go_ret
        exact ⟨rfl, bstep HB2.out b3⟩
      · have h4 : (C.nP : Int) ≤ n := h3
        go_enter Try.func7, Try.ntmps7
        go_wp2_with fail
        refine (HLC.out _).mono ?_; rintro e w1 ⟨rfl, b1⟩
        have HB1 := Lib.hid (bstep (a := w) (by go_grown) b1)
        have HV := Lib.hid (show CV w1 w.heap.size C pP cP pW cW pC cC from ⟨bk_below (bk_new w _) b1, HI.out.below HB1.out⟩)
        clear b1
        obtain ⟨y0, y1, y2, y3⟩ := HV.out.cells
        go_wp2_with fail
        refine (HK.out _ HV.out.i).mono ?_; rintro e w2 ⟨rfl, b2⟩
        have HB2 := Lib.hid (bstep HB1.out b2)
        have HV2 := Lib.hid (HV.out.below b2)
        clear b2 y0 y1 y2 y3
        obtain ⟨y0, y1, y2, y3⟩ := HV2.out.cells
        go_wp2_with fail
        refine (awake_any _).mono ?_; rintro e w3 ⟨rfl, b3⟩
        go_wp2
        go_ret
        exact ⟨rfl, bstep HB2.out b3⟩
    · have x1 : (E != 0) = true := by simpa using hE
      have x2 : (E == 0) = false := by simpa using hE
      clear hE h
      go_enter Try.func7, Try.ntmps7
      go_wp2_with fail
      refine (HLC.out _).mono ?_; rintro e w1 ⟨rfl, b1⟩
      have HB1 := Lib.hid (bstep (a := w) (by go_grown) b1)
      have HV := Lib.hid (show CV w1 w.heap.size C pP cP pW cW pC cC from ⟨bk_below (bk_new w _) b1, HI.out.below HB1.out⟩)
      clear b1
      obtain ⟨y0, y1, y2, y3⟩ := HV.out.cells
      go_wp2_with fail
      refine (HK.out _ HV.out.i).mono ?_; rintro e w2 ⟨rfl, b2⟩
      have HB2 := Lib.hid (bstep HB1.out b2)
      clear b2 y0 y1 y2 y3
      go_wp2_with fail
      refine (awake_any _).mono ?_; rintro e w3 ⟨rfl, b3⟩
      go_wp2
      go_ret
      exact ⟨rfl, bstep HB2.out b3⟩
set_option maxHeartbeats 4000000 in
theorem grow_in (C : Cfg) (l : Lay) (p : Nat) (w : World) (hI : IsC w C l) (hl : longB C = false) (hok : CkOk C) (hp : p < C.nP) :
    Calls Try.prog 7 #[.agg (cfgV C l), .int .i64 p] w fun e w' => e = .returned (.bool true) ∧ Below w.heap.size w w' := by
  obtain ⟨pP, cP, pW, cW, pC, cC⟩ := l
  have hNC := short_hN hl
  have HI := Lib.hid hI
  have HLC := Lib.hid fun (W : World) => longv (C := C) (p := pP) (q := pW) (r := pC) (c := cP) (d := cW) (k := cC) (w := W)
  have hck := fun (W : World) (h : IsC W C ⟨pP, cP, pW, cW, pC, cC⟩) => checkv h hNC
  rw [ckE_ok hok] at hck
  have HK := Lib.hid hck
  have HF := Lib.hid fun (W : World) (h : IsC W C ⟨pP, cP, pW, cW, pC, cC⟩) => framesv h hNC
  have HKD := Lib.hid fun (q : Option Addr) (c : Nat) (W : World) (h : IsC W (growC C p) ⟨q, c, pW, cW, pC, cC⟩) => checkv (C := growC C p) h hNC
  have HFD := Lib.hid fun (q : Option Addr) (c : Nat) (W : World) (h : IsC W (growC C p) ⟨q, c, pW, cW, pC, cC⟩) => framesv (C := growC C p) h hNC
  have hsm := fun (q : Option Addr) (c : Nat) (W : World) (h : IsC W C ⟨pP, cP, pW, cW, pC, cC⟩) (h' : IsC W (growC C p) ⟨q, c, pW, cW, pC, cC⟩) => samev h h' hNC
  simp only [grow_same hp] at hsm
  have HS := Lib.hid hsm
  have HU := Lib.hid (show cfgV C ⟨pP, cP, pW, cW, pC, cC⟩ = #[.slice pP C.nP cP, .slice pW C.nW cW, .slice pC C.nC cC] from rfl)
  rw [HU.out]
  rw [hl] at HLC
  have hq := hok.1.P hp
  have hN := hok.1.N
  have HG := Lib.hid (grow_ck hp hok)
  have HFB := Lib.hid (show 0 ≤ frE C ∧ frE C ≤ 1024 from ⟨by rw [frE_ok hok.1]; have := (hok.1.sumP (Nat.le_refl _)).1; have := (hok.1.sumC (Nat.le_refl _)).1; omega, hok.2⟩)
  clear HU hI hl hNC hck hsm hok
  have p0 : ¬ (p : Int) < 0 := by omega
  have p1 : ¬ (C.nP : Int) ≤ p := by omega
  have p2 : (0 : Int) ≤ p := by omega
  have p3 : (p : Int) < C.nP := by omega
  have hw : wrap64 (C.q p + 1) = C.q p + 1 := by unfold wrap64; omega
  have hw2 : IntKind.i64.wrap (C.q p + 1) = C.q p + 1 := by rw [IntKind.wrap_i64]; omega
  go_enter Try.func7, Try.ntmps7
  go_wp2_with fail
  refine (HLC.out _).mono ?_; rintro e w1 ⟨rfl, b1⟩
  have HB1 := Lib.hid (bstep (a := w) (by go_grown) b1)
  have HV1 := Lib.hid (show CV w1 w.heap.size C pP cP pW cW pC cC from ⟨bk_below (bk_new w _) b1, HI.out.below HB1.out⟩)
  clear b1
  obtain ⟨y0, y1, y2, y3⟩ := HV1.out.cells
  go_wp2_with fail
  refine (HK.out _ HV1.out.i).mono ?_; rintro e w2 ⟨rfl, b2⟩
  have HB2 := Lib.hid (bstep HB1.out b2)
  have HV2 := Lib.hid (HV1.out.below b2)
  clear b2 y0 y1 y2 y3 HB1 HV1
  obtain ⟨y0, y1, y2, y3⟩ := HV2.out.cells
  go_upto_region 4 with fail
  refine wp_abs (fun V => CV V w.heap.size C pP cP pW cW pC cC ∧ V.heap[w2.heap.size]? = some (.cells #[.slice pP C.nP cP, .slice pW C.nW cW, .slice pC C.nC cC] 26 (0, 0)) ∧ Below w.heap.size w V) ?_ ?_
  · exact ⟨HV2.out.alloc _, bk_new _ _, HB2.out.alloc HB2.out.size _⟩
  rintro V ⟨hv1, hv2, hv3⟩
  have hl2 : w.heap.size < w2.heap.size := y3
  clear y0 y1 y2 y3
  obtain ⟨y0, y1, y2, y3⟩ := hv1.cells
  have HV3 := Lib.hid hv1
  have HD3 := Lib.hid hv2
  have HB3 := Lib.hid hv3
  have hvl := bk_lt hv2
  have HII := Lib.hid hv1.i.P
  rcases hv1.i.P with h0 | ⟨b, o, e5, hc⟩
  · exact absurd h0 (by show ¬ C.nP = 0; omega)
  simp only at e5
  subst e5
  have HSF := Lib.hid (Sl2.flat (w := V) (p := some ⟨b, o, none⟩) (n := C.nP) (X := C.q) (Y := C.s) (.inr ⟨b, o, rfl, hc⟩))
  have HCC := Lib.hid hc
  clear hv1 hv2 hv3 hc HII
  go_wp2_with (at_builtin; refine appF rfl _ _ _ rfl keP (.slice (some ⟨V.heap.size, 0, none⟩) 0 0) 0 [] (by rfl) (ownF_none (Nat.le_refl _)) (some ⟨b, o, none⟩) C.nP cP (two2 C.q C.s) (by rfl) (fun e => by cases e) (HSF.out.below ((Below.refl _ _).alloc (Nat.le_refl _) _)) (fun i r _ => two2_one C.q C.s i r) (by omega) (by simp) ?c1)
  case c1 =>
    intro v1 w3 o1 b1 g1
    (try rw [List.nil_append, Nat.zero_add] at o1)
    obtain ⟨a, cc, rfl, hsl, hab, hanil, _⟩ := ownF_sl o1
    have hb3 : Below V.heap.size V w3 := ((Below.refl V.heap.size V).alloc (Nat.le_refl _) _).trans b1
    rcases hsl with h0 | ⟨gd, oo, rfl, hcd⟩
    · omega
    obtain ⟨hgd1, hgd2, rfl⟩ := hab gd oo rfl
    have HV4 := Lib.hid (HV3.out.below hb3)
    have HD4 := Lib.hid (bk_below HD3.out hb3)
    have HB4 := Lib.hid (bstep HB3.out hb3)
    have HCD := Lib.hid hcd
    have HC4 := Lib.hid (fun i (hi : i < C.nP) => (⟨keepc hb3 (HCC.out i hi).1, keepc hb3 (HCC.out i hi).2⟩ : w3.cell? ⟨b, o + i * 2, none⟩ = some (.int .i64 (C.q i)) ∧ w3.cell? ⟨b, o + i * 2 + 1, none⟩ = some (.int .i64 (C.s i))))
    have hf1 := bk_frozen HD4.out 0
    have hd1 : w3.cell? ⟨w2.heap.size, 0, none⟩ = some (.slice (some ⟨b, o, none⟩) C.nP cP) := (bk_cell HD4.out 0).trans rfl
    have hz3 := hb3.size
    have HOW := Lib.hid o1
    clear o1 b1 g1 hab hanil hcd hb3 y0 y1 y2 y3
    go_upto_region 5 with fail
    refine wp_abs (fun U => CV U w.heap.size C (some ⟨b, o, none⟩) cP pW cW pC cC ∧ U.heap[w2.heap.size]? = some (.cells #[.slice (some ⟨gd, 0, none⟩) C.nP cc, .slice pW C.nW cW, .slice pC C.nC cC] 26 (0, 0)) ∧ Sl2 U (some ⟨gd, 0, none⟩) C.nP C.q C.s ∧ U.frozen? ⟨gd, p * 2, none⟩ = false ∧ Below w.heap.size w U ∧ w2.heap.size < gd ∧ (∃ cur, U.heap[gd]? = some (.cells cur 41 (0, 0)))) ?_ ?_
    · have hk3 : Kept w2.heap.size w3 (w3.setCell ⟨w2.heap.size, 0, none⟩ (.slice (some ⟨gd, 0, none⟩) C.nP cc)) := (Kept.refl _ _).setCell 0 _
      obtain ⟨cur, hcur, hcs⟩ := ownF_blk HOW.out
      refine ⟨⟨hk3.blk HV4.out.h (by omega), HV4.out.i.kept0 HI.out hk3 HB2.out.size⟩, bk_set HD4.out 0 _, .inr ⟨gd, 0, rfl, fun i hi => ⟨?_, ?_⟩⟩, bk_frozen (hk3.blk hcur (by omega)) _, hk3.below HB4.out (by omega) HB4.out.size, by omega, cur, hk3.blk hcur (by omega)⟩
      · exact hk3.cell (by simpa [two2] using HCD.out i hi 0 (by decide)) (by omega)
      · exact hk3.cell (by simpa [two2] using HCD.out i hi 1 (by decide)) (by omega)
    clear hf1 hd1
    rintro U ⟨hu1, hu2, hu3, hu4, hu5, hgw, hu6⟩
    rcases hu3 with h0 | ⟨gd', o', e7, hu3⟩
    · omega
    simp only [Option.some.injEq, Addr.mk.injEq, and_true] at e7
    obtain ⟨rfl, rfl⟩ := e7
    rcases hu1.i.P with h0 | ⟨b', o', e7, hu7⟩
    · exact absurd h0 (by show ¬ C.nP = 0; omega)
    simp only [Option.some.injEq, Addr.mk.injEq, and_true] at e7
    obtain ⟨rfl, rfl⟩ := e7
    have HU1 := Lib.hid hu1
    have HU2 := Lib.hid hu2
    have HU3 := Lib.hid hu3
    have HU5 := Lib.hid hu5
    have HU6 := Lib.hid hu6
    have hbl : b < w.heap.size := by
      rcases HI.out.P with h0 | ⟨b0, o0, e8, h8⟩
      · exact absurd h0 (by show ¬ C.nP = 0; omega)
      · simp only [Option.some.injEq, Addr.mk.injEq, and_true] at e8
        obtain ⟨rfl, rfl⟩ := e8
        exact block_lt_of_cell (h8 p hp).1
    have a0 : U.drew.cell? ⟨w.heap.size, 0, none⟩ = some (.slice (some ⟨b, o, none⟩) C.nP cP) := hu1.cells.1
    have a1 : U.drew.cell? ⟨w2.heap.size, 0, none⟩ = some (.slice (some ⟨gd, 0, none⟩) C.nP cc) := (bk_cell hu2 0).trans rfl
    have a2 : U.drew.cell? ⟨b, o + p * 2, none⟩ = some (.int .i64 (C.q p)) := (hu7 p hp).1
    have a3 : U.drew.cell? ⟨gd, p * 2, none⟩ = some (.int .i64 (C.q p)) := by have := (hu3 p hp).1; rwa [Nat.zero_add] at this
    have a4 : U.drew.frozen? ⟨gd, p * 2, none⟩ = false := hu4
    have b0 : U.cell? ⟨w.heap.size, 0, none⟩ = some (.slice (some ⟨b, o, none⟩) C.nP cP) := a0
    have b1 : U.cell? ⟨w2.heap.size, 0, none⟩ = some (.slice (some ⟨gd, 0, none⟩) C.nP cc) := a1
    have b2 : U.cell? ⟨b, o + p * 2, none⟩ = some (.int .i64 (C.q p)) := a2
    clear hu1 hu2 hu3 hu4 hu5 hu6 hu7 HV4 HD4 HCD HOW HV3 HD3 HSF HCC HC4 HB3 HB4
    have hgb : b ≠ gd := by omega
    have hgw0 : w.heap.size ≠ gd := by omega
    have hgw2 : w2.heap.size ≠ gd := by omega
    go_wp2_with fail
    go_region_held3 (fun W' => W'.cell? ⟨w.heap.size, 0, none⟩ = some (.slice (some ⟨b, o, none⟩) C.nP cP) ∧ W'.cell? ⟨w2.heap.size, 0, none⟩ = some (.slice (some ⟨gd, 0, none⟩) C.nP cc) ∧ W'.cell? ⟨b, o + p * 2, none⟩ = some (.int .i64 (C.q p)))
      (first | assumption | ((try go_split_ands); (repeat' apply And.intro) <;> first | assumption | with_reducible first | exact cell_drew (cell_far (by assumption) hgw0 _ _) | exact cell_drew (cell_far (by assumption) hgw2 _ _) | exact cell_drew (cell_far (by assumption) hgb _ _) | trace_state))
      (fail)
    (try go_split_ands)
    clear a0 a1 a2 a3 a4 b0 b1 b2
    go_upto_region 6 with fail
    refine wp_abs (fun R => CV R w.heap.size C (some ⟨b, o, none⟩) cP pW cW pC cC ∧ CV R w2.heap.size (growC C p) (some ⟨gd, 0, none⟩) cc pW cW pC cC ∧ Below w.heap.size w R) ?_ ?_
    · have hkd : Kept gd U (U.setCell ⟨gd, p * 2, none⟩ (.int .i64 (C.q p + 1))) := (Kept.refl _ _).setCell _ _
      have hk : Kept gd U (U.setCell ⟨gd, p * 2, none⟩ (.int .i64 (C.q p + 1))).drew := hkd.drew
      have hiw := HI.out
      have hc1 := HU1.out.i.kept0 HI.out hk (by have := HB2.out.size; omega)
      obtain ⟨cur, hcur⟩ := HU6.out
      refine ⟨⟨hk.blk HU1.out.h hgw0, hc1⟩, ⟨hk.blk HU2.out hgw2, ⟨.inr ⟨gd, 0, rfl, fun i hi => ?_⟩, hc1.W, hc1.C⟩⟩, hk.below HU5.out (by have := HB2.out.size; omega) HU5.out.size⟩
      have h3 := HU3.out i hi
      have hb0 := (bk_cell (bk_set hcur (p * 2) (.int .i64 (C.q p + 1))) (p * 2))
      by_cases hip : i = p
      · subst hip
        refine ⟨?_, cell_drew (cell_at h3.2 (by omega))⟩
        rw [Nat.zero_add]
        rw [Nat.zero_add] at h3
        have h5 : (U.setCell ⟨gd, i * 2, none⟩ (.int .i64 (C.q i + 1))).cell? ⟨gd, i * 2, none⟩ = some (.int .i64 (C.q i + 1)) := by
          rw [hb0]
          have h6 := h3.1
          rw [bk_cell hcur] at h6
          have h7 := (Array.getElem?_eq_some_iff.1 h6).1
          simp [h7]
        rw [show (growC C i).q i = C.q i + 1 from if_pos rfl]
        exact cell_drew h5
      · refine ⟨?_, cell_drew (cell_at h3.2 (by omega))⟩
        rw [show (growC C p).q i = C.q i from if_neg hip]
        exact cell_drew (cell_at h3.1 (by omega))
    clear HU1 HU2 HU3 HU5 HU6
    rintro R ⟨hr1, hr2, hr3⟩
    have HR1 := Lib.hid hr1
    have HR2 := Lib.hid hr2
    have HR3 := Lib.hid hr3
    have hgn : (growC C p).nP = C.nP ∧ (growC C p).nW = C.nW ∧ (growC C p).nC = C.nC := ⟨rfl, rfl, rfl⟩
    have HKE := Lib.hid fun (W : World) (h : IsC W (growC C p) ⟨some ⟨gd, 0, none⟩, cc, pW, cW, pC, cC⟩) => show Calls Try.prog 13 #[.agg #[.slice (some ⟨gd, 0, none⟩) C.nP cc, .slice pW C.nW cW, .slice pC C.nC cC]] W fun e w' => e = .returned (.int .i64 (ckE (growC C p))) ∧ Below W.heap.size W w' from HKD.out _ _ W h
    have HFE := Lib.hid fun (W : World) (h : IsC W (growC C p) ⟨some ⟨gd, 0, none⟩, cc, pW, cW, pC, cC⟩) => show Calls Try.prog 15 #[.agg #[.slice (some ⟨gd, 0, none⟩) C.nP cc, .slice pW C.nW cW, .slice pC C.nC cC]] W fun e w' => e = .returned (.int .i64 (frE (growC C p))) ∧ Below W.heap.size W w' from HFD.out _ _ W h
    have HSE := Lib.hid fun (W : World) (h : IsC W C ⟨some ⟨b, o, none⟩, cP, pW, cW, pC, cC⟩) (h' : IsC W (growC C p) ⟨some ⟨gd, 0, none⟩, cc, pW, cW, pC, cC⟩) => show Calls Try.prog 17 #[.agg #[.slice (some ⟨b, o, none⟩) C.nP cP, .slice pW C.nW cW, .slice pC C.nC cC], .agg #[.slice (some ⟨gd, 0, none⟩) C.nP cc, .slice pW C.nW cW, .slice pC C.nC cC]] W fun e w' => e = .returned (.bool false) ∧ Below W.heap.size W w' from HS.out _ _ W h h'
    have hcd : ∀ (W : World), CV W w2.heap.size (growC C p) (some ⟨gd, 0, none⟩) cc pW cW pC cC → W.cell? ⟨w2.heap.size, 0, none⟩ = some (.slice (some ⟨gd, 0, none⟩) C.nP cc) ∧ W.cell? ⟨w2.heap.size, 1, none⟩ = some (.slice pW C.nW cW) ∧ W.cell? ⟨w2.heap.size, 2, none⟩ = some (.slice pC C.nC cC) ∧ w2.heap.size < W.heap.size := fun W h => h.cells
    have HCD := Lib.hid hcd
    obtain ⟨y0, y1, y2, y3⟩ := hcd R hr2
    clear hr1 hr2 hr3 hcd hgn
    go_wp2_with fail
    refine (HKE.out _ HR2.out.i).mono ?_; rintro e w4 ⟨rfl, b4⟩
    have HB4 := Lib.hid (bstep HR3.out b4)
    have HV4 := Lib.hid (HR1.out.below b4)
    have HD4 := Lib.hid (HR2.out.below b4)
    clear b4 y0 y1 y2 y3
    rcases HG.out with ⟨g1, g2⟩ | ⟨g1, g2, g3⟩
    · rw [g1]
      obtain ⟨y0, y1, y2, y3⟩ := HV4.out.cells
      rcases HV4.out.i.P with h0 | ⟨b', o', e7, hu7⟩
      · exact absurd h0 (by show ¬ C.nP = 0; omega)
      simp only [Option.some.injEq, Addr.mk.injEq, and_true] at e7
      obtain ⟨rfl, rfl⟩ := e7
      have x0 := (hu7 p hp).1
      rw [g2] at x0
      clear hu7 HG g1 g2 hw hw2
      go_wp2_with fail
      refine (awake_any _).mono ?_; rintro e w5 ⟨rfl, b5⟩
      go_wp2
      go_ret
      exact ⟨by simp, bstep HB4.out b5⟩
    · have hfb := HFB.out
      clear HG HFB
      generalize hE : ckE (growC C p) = E at *
      generalize hFF : frE (growC C p) = F at *
      generalize frE C = F0 at *
      have hwf : wrap64 (F0 + 1) = F := by unfold wrap64; omega
      have hwf2 : IntKind.i64.wrap (F0 + 1) = F := by rw [IntKind.wrap_i64]; omega
      have hq1 : (E == 2) = false := g1
      have hq2 : (F == F) = true := by simp
      have hq3 : ((E == 0) == decide (F ≤ 1024)) = true := by rw [g3]; simp
      clear g1 g2 g3 hE hFF hfb
      obtain ⟨y0, y1, y2, y3⟩ := HCD.out _ HD4.out
      go_wp2_with fail
      refine (HFE.out _ HD4.out.i).mono ?_; rintro e w5 ⟨rfl, b5⟩
      have HB5 := Lib.hid (bstep HB4.out b5)
      have HV5 := Lib.hid (HV4.out.below b5)
      have HD5 := Lib.hid (HD4.out.below b5)
      clear b5 y0 y1 y2 y3
      obtain ⟨y0, y1, y2, y3⟩ := HV5.out.cells
      go_wp2_with fail
      refine (HF.out _ HV5.out.i).mono ?_; rintro e w6 ⟨rfl, b6⟩
      have HB6 := Lib.hid (bstep HB5.out b6)
      have HV6 := Lib.hid (HV5.out.below b6)
      have HD6 := Lib.hid (HD5.out.below b6)
      clear b6 y0 y1 y2 y3
      obtain ⟨y0, y1, y2, y3⟩ := HV6.out.cells
      obtain ⟨z0, z1, z2, z3⟩ := HCD.out _ HD6.out
      go_wp2_with fail
      refine (HSE.out _ HV6.out.i HD6.out.i).mono ?_; rintro e w7 ⟨rfl, b7⟩
      have HB7 := Lib.hid (bstep HB6.out b7)
      clear b7 y0 y1 y2 y3 z0 z1 z2 z3
      go_wp2_with fail
      refine (awake_any _).mono ?_; rintro e w8 ⟨rfl, b8⟩
      go_wp2
      go_ret
      exact ⟨by simp, bstep HB7.out b8⟩
theorem ConfGrows_any (C : Cfg) (l : Lay) (n : Int) (w : World) (hI : IsC w C l) :
    Calls Try.prog 7 #[.agg (cfgV C l), .int .i64 n] w fun e w' => e = .returned (.bool true) ∧ Below w.heap.size w w' := by
  by_cases h : longB C = true ∨ ckE C ≠ 0 ∨ n < 0 ∨ (C.nP : Int) ≤ n
  · exact grow_out C l n w hI h
  · have hl : longB C = false := by
      cases hb : longB C with
      | false => rfl
      | true => exact absurd (.inl hb) h
    have hE : ckE C = 0 := by
      by_cases g : ckE C = 0
      · exact g
      · exact absurd (.inr (.inl g)) h
    have hn : 0 ≤ n ∧ n < C.nP := by
      by_cases g : 0 ≤ n ∧ n < C.nP
      · exact g
      · exact absurd (.inr (.inr (by omega))) h
    obtain ⟨p, rfl⟩ : ∃ p : Nat, n = p := ⟨n.toNat, by omega⟩
    exact grow_in C l p w hI hl (ckE_zero hE) (by omega)
end Go.Proofs.Ythgoighpmnecbaa
