/- chans.New. -/
import Derived.Test.YtofkgceenppdbaaXCall
import Derived.Test.YtofkgceenppdbaaAppK
import Derived.Test.YtofkgceenppdbaaPlanC
namespace Go.Proofs.Ytofkgceenppdbaa
open Go.RowKit
set_option linter.unusedVariables false
set_option linter.unusedSimpArgs false
theorem keX : KElem Try.prog 69 84 (.agg #[.pointer none, .pointer none, .int .i64 0, .int .i64 0, .int .i64 0, .int .i64 0, .int .i64 0]) 7 56 := ⟨Try.underlying69, by kernel_rfl, by rfl, by decide, by decide⟩
theorem xnew_nil (C : Cfg) (ly : Lay) (w : World) :
    Calls Try.prog 12 #[.pointer none, .agg (cfgV C ly)] w fun e w' => e = .returned (.tuple #[.pointer none, .int .i64 1]) ∧ Below w.heap.size w w' := by
  obtain ⟨pP, cP, pW, cW, pC, cC⟩ := ly
  unfold cfgV at *
  simp only at *
  go_enter Try.func12, Try.ntmps12
  go_wp2_with fail
  refine (mframes_nil _).mono ?_; rintro e w1 ⟨rfl, rfl⟩
  go_wp2
  go_ret2
  exact ⟨rfl, by go_grown⟩
theorem xnew_bad (C : Cfg) (ly : Lay) (mm fb nF : Nat) (M : Nat → Int) (w : World) (hI : IsC w C ly) (hN : Big C) (hm : MemS w mm fb nF M) (hF : 1 ≤ nF) (hE : ¬ CkOk C) :
    Calls Try.prog 12 #[.pointer (some ⟨mm, 0, none⟩), .agg (cfgV C ly)] w fun e w' => e = .returned (.tuple #[.pointer none, .int .i64 (ckE C)]) ∧ Below w.heap.size w w' := by
  have HK := Lib.hid fun (W : World) (h : IsC W C ly) => check_any C ly W h hN
  have HI := Lib.hid hI
  have HM := Lib.hid hm
  have e1 : (ckE C == 0) = false := beq_eq_false_iff_ne.2 (by rcases ckE_cases C with ⟨h', _⟩ | ⟨_, h' | h'⟩ <;> first | exact absurd h' hE | omega)
  have e2 : ((nF : Int) == 0) = false := beq_eq_false_iff_ne.2 (by omega)
  clear hI hm
  obtain ⟨pP, cP, pW, cW, pC, cC⟩ := ly
  unfold cfgV at *
  simp only at *
  go_enter Try.func12, Try.ntmps12
  go_wp2_with fail
  refine (mframes_any mm fb nF M _ ?_).mono ?_
  · exact HM.out.below (by go_grown)
  rintro e w1 ⟨rfl, rfl⟩
  go_wp2_with fail
  refine (HK.out _ ?_).mono ?_
  · exact HI.out.below (by go_grown)
  rintro e w1 ⟨rfl, hb⟩
  go_wp2
  go_ret2
  exact ⟨rfl, bstep (by go_grown) hb⟩
theorem xnew_small (C : Cfg) (ly : Lay) (mm fb nF : Nat) (M : Nat → Int) (w : World) (hI : IsC w C ly) (hN : Big C) (hm : MemS w mm fb nF M) (hF : 1 ≤ nF) (hE : CkOk C) (hF2 : nF < frE C) :
    Calls Try.prog 12 #[.pointer (some ⟨mm, 0, none⟩), .agg (cfgV C ly)] w fun e w' => e = .returned (.tuple #[.pointer none, .int .i64 2]) ∧ Below w.heap.size w w' := by
  have hck := fun (W : World) (h : IsC W C ly) => check_any C ly W h hN
  rw [ckE_ok hE] at hck
  have HK := Lib.hid hck
  have HFr := Lib.hid fun (W : World) (h : IsC W C ly) => frames_any C ly W h hN
  have HI := Lib.hid hI
  have HM := Lib.hid hm
  have e2 : ((nF : Int) == 0) = false := beq_eq_false_iff_ne.2 (by omega)
  clear hI hm hck
  obtain ⟨pP, cP, pW, cW, pC, cC⟩ := ly
  unfold cfgV at *
  simp only at *
  go_enter Try.func12, Try.ntmps12
  go_wp2_with fail
  refine (mframes_any mm fb nF M _ ?_).mono ?_
  · exact HM.out.below (by go_grown)
  rintro e w1 ⟨rfl, rfl⟩
  go_wp2_with fail
  refine (HK.out _ ?_).mono ?_
  · exact HI.out.below (by go_grown)
  rintro e w1 ⟨rfl, hb⟩
  have HB := Lib.hid (show Below w.heap.size w w1 from bstep ((Below.refl _ _).alloc (Nat.le_refl _) _) hb)
  have c3 := bk_below (bk_new w (.cells #[.slice pP C.nP cP, .slice pW C.nW cW, .slice pC C.nC cC] 26)) hb
  have y0 : w1.cell? ⟨w.heap.size, 0, none⟩ = some (.slice pP C.nP cP) := (bk_cell c3 0).trans rfl
  have y1 : w1.cell? ⟨w.heap.size, 1, none⟩ = some (.slice pW C.nW cW) := (bk_cell c3 1).trans rfl
  have y2 : w1.cell? ⟨w.heap.size, 2, none⟩ = some (.slice pC C.nC cC) := (bk_cell c3 2).trans rfl
  clear c3 hb
  go_wp2_with fail
  refine (HFr.out _ (HI.out.below HB.out)).mono ?_
  rintro e w2 ⟨rfl, hb2⟩
  have HB2 := Lib.hid (bstep HB.out hb2)
  clear hb2 y0 y1 y2 HB
  go_wp2_with fail
  refine (mframes_any mm fb nF M _ (HM.out.below HB2.out)).mono ?_
  rintro e w3 ⟨rfl, rfl⟩
  go_wp2
  go_ret2
  exact ⟨rfl, HB2.out⟩
/-- under way: the channels so far -/
structure NI (C : Cfg) (ly : Lay) (mm : Nat) (w W : World) (X k : Nat) (R : Nat → Nat) (v : Value) : Prop where
  b : Below w.heap.size w W
  hX : W.heap[X]? = some (.cells #[.bool true, v] 71 (0, 0))
  lt : w.heap.size < X
  own : W.ownsRow (X + 1) 84 7 v k (flat 7 (chF C mm R) k)
  ring : ∀ i, i < k → IsRing W (R i) (cN C i) (dN C i) 0 0 ∧ X < R i
  inj : ∀ i j, i < k → j < k → i ≠ j → R i ≠ R j
  c : W.heap[w.heap.size]? = some (.cells #[.slice ly.pP C.nP ly.cP, .slice ly.pW C.nW ly.cW, .slice ly.pC C.nC ly.cC] 26 (0, 0))
section
variable {C : Cfg} {ly : Lay} {mm X k : Nat} {w W W' : World} {R : Nat → Nat} {v v' : Value}
theorem NI.below (h : NI C ly mm w W X k R v) (hb : Below W.heap.size W W') : NI C ly mm w W' X k R v :=
  ⟨bstep h.b hb, bk_below h.hX hb, h.lt, own_kept h.own (Kept.of_below (g := 0) hb) (by omega), fun i hi => ⟨(h.ring i hi).1.below hb, (h.ring i hi).2⟩, h.inj, bk_below h.c hb⟩
theorem NI.cells (h : NI C ly mm w W X k R v) : W.cell? ⟨w.heap.size, 0, none⟩ = some (.slice ly.pP C.nP ly.cP) ∧ W.cell? ⟨w.heap.size, 1, none⟩ = some (.slice ly.pW C.nW ly.cW) ∧ W.cell? ⟨w.heap.size, 2, none⟩ = some (.slice ly.pC C.nC ly.cC) ∧
    W.cell? ⟨X, 1, none⟩ = some v ∧ W.frozen? ⟨X, 1, none⟩ = false ∧ w.heap.size < W.heap.size ∧ X < W.heap.size :=
  ⟨(bk_cell h.c 0).trans rfl, (bk_cell h.c 1).trans rfl, (bk_cell h.c 2).trans rfl, (bk_cell h.hX 1).trans rfl, bk_frozen h.hX 1, bk_lt h.c, bk_lt h.hX⟩
theorem own_ne {e k n R c d a m : Nat} {zs : List Value} {B : Nat} {w : World} {v : Value} (h : w.ownsRow B e k v n zs) (hr : IsRing w R c d a m) (he : e ≠ 109) : v.ownBlock ≠ some R := by
  obtain ⟨_, h⟩ := h
  intro eb
  rcases h with ⟨rfl, _⟩ | ⟨b, cap, cur, rfl, _, hg, _⟩
  · cases eb
  · simp only [Value.ownBlock, Option.some.injEq] at eb
    subst eb
    rw [hr] at hg
    simp only [Option.some.injEq, Obj.cells.injEq] at hg
    exact he hg.2.1.symm
/-- a channel appended -/
theorem NI.app {Rk : Nat} (h : NI C ly mm w W X k R v) (hb : Below (X + 1) W W') (hg : W.grownBy W' v.ownBlock) (ho : W'.ownsRow (X + 1) 84 7 v' (k + 1) (flat 7 (chF C mm R) k ++ [.pointer (some ⟨Rk, 0, none⟩), .pointer (some ⟨mm, 0, none⟩), .int .i64 (frN C k), .int .i64 (C.cf k), .int .i64 (C.ct k), .int .i64 (C.cc k), .int .i64 (C.cw k)]))
    (hr : IsRing W Rk (cN C k) (dN C k) 0 0) (hX : X < Rk) (hne : ∀ i, i < k → R i ≠ Rk) : NI C ly mm w (W'.setCell ⟨X, 1, none⟩ v') X (k + 1) (updN R k Rk) v' := by
  have hlt := h.lt
  have hx := bk_lt h.hX
  have eR : ∀ i, i < k → updN R k Rk i = R i := fun i hi => if_neg (by omega)
  have eK : updN R k Rk k = Rk := if_pos rfl
  have hb2 : Below (w.heap.size + 1) W (W'.setCell ⟨X, 1, none⟩ v') := (hb.mono (by omega)).setCell (by show w.heap.size + 1 ≤ X; omega) _
  have rg : ∀ r c d, IsRing W r c d 0 0 → X < r → IsRing (W'.setCell ⟨X, 1, none⟩ v') r c d 0 0 := fun r c d q1 q2 => bk_far ((hg.block r (bk_lt q1) (own_ne h.own q1 (by decide)).symm).trans q1) (by show r ≠ X; omega) _
  refine ⟨h.b.trans (hb2.mono (by omega)), bk_set ((hb.block X (by omega)).trans h.hX) 1 v', h.lt, ?_, ?_, ?_, (hb2.block _ (by omega)).trans h.c⟩
  · have e : flat 7 (chF C mm (updN R k Rk)) (k + 1) = flat 7 (chF C mm R) k ++ [.pointer (some ⟨Rk, 0, none⟩), .pointer (some ⟨mm, 0, none⟩), .int .i64 (frN C k), .int .i64 (C.cf k), .int .i64 (C.ct k), .int .i64 (C.cc k), .int .i64 (C.cw k)] := by
      rw [flat_succ (by decide), flat_congr (F := chF C mm (updN R k Rk)) (G := chF C mm R) (by decide) (fun i r hi _ => by unfold chF; rw [eR i hi])]
      congr 1
      show [chF C mm (updN R k Rk) k 0, chF C mm (updN R k Rk) k 1, chF C mm (updN R k Rk) k 2, chF C mm (updN R k Rk) k 3, chF C mm (updN R k Rk) k 4, chF C mm (updN R k Rk) k 5, chF C mm (updN R k Rk) k 6] = _
      simp [chF, eK]
    rw [e]
    exact own_set ho (by omega) 1 _
  · intro i hi
    by_cases e : i = k
    · subst e
      rw [eK]
      exact ⟨rg _ _ _ hr hX, hX⟩
    · rw [eR i (by omega)]
      obtain ⟨q1, q2⟩ := h.ring i (by omega)
      exact ⟨rg _ _ _ q1 q2, q2⟩
  · intro i j hi hj hij
    by_cases e : i = k
    · subst e
      rw [eK, eR j (by omega)]
      exact (hne j (by omega)).symm
    · by_cases e2 : j = k
      · subst e2
        rw [eK, eR i (by omega)]
        exact hne i (by omega)
      · rw [eR i (by omega), eR j (by omega)]
        exact h.inj i j (by omega) (by omega) hij
end
/-- a channel's frames, its ring -/
theorem xchan (C : Cfg) (ly : Lay) (i : Nat) (w : World) (hI : IsC w C ly) (hN : Big C) (hE : CkOk C) (hi : i < C.nC) :
    Calls Try.prog 33 #[.agg (cfgV C ly), .int .i64 i] w fun e w' => (∃ x y, e = .returned (.tuple #[.int .i64 (frN C i), .int .i64 x, .int .i64 y])) ∧ Below w.heap.size w w' := by
  refine (chan_any C ly i w hI hN).mono ?_
  rintro e w' ⟨rfl, hb⟩
  rw [frN_ch hE hi]
  exact ⟨⟨_, _, rfl⟩, hb⟩
theorem xring {C : Cfg} {i : Nat} {w : World} (hE : CkOk C) (hi : i < C.nC) :
    Calls Try.prog 32 #[.int .i64 (C.cc i), .int .i64 (C.cw i)] w fun e w' => ∃ R, e = .returned (.tuple #[.pointer (some ⟨R, 0, none⟩), .int .i64 0]) ∧ IsRing w' R (cN C i) (dN C i) 0 0 ∧ w.heap.size ≤ R ∧ Below w.heap.size w w' := by
  obtain ⟨h1, h2, h3, h4, h5, h6⟩ := cN_eq hE hi
  rw [← h1, ← h2]
  exact new_rs _ _ w h3 h4 h5 h6
set_option maxHeartbeats 1000000 in
theorem xnew_ok (C : Cfg) (ly : Lay) (mm fb nF : Nat) (M : Nat → Int) (w : World) (hI : IsC w C ly) (hN : Big C) (hm : MemS w mm fb nF M) (hF : 1 ≤ nF) (hE : CkOk C) (hF2 : frE C ≤ nF) :
    Calls Try.prog 12 #[.pointer (some ⟨mm, 0, none⟩), .agg (cfgV C ly)] w fun e w' => ∃ X R v, e = .returned (.tuple #[.pointer (some ⟨X, 0, none⟩), .int .i64 0]) ∧ NI C ly mm w w' X C.nC R v := by
  have hck := fun (W : World) (h : IsC W C ly) => check_any C ly W h hN
  rw [ckE_ok hE] at hck
  have HK := Lib.hid hck
  have HFr := Lib.hid fun (W : World) (h : IsC W C ly) => frames_any C ly W h hN
  have HCh := Lib.hid fun (W : World) (h : IsC W C ly) (i : Nat) (hi : i < C.nC) => xchan C ly i W h hN hE hi
  have HNR := Lib.hid fun (W : World) (i : Nat) (hi : i < C.nC) => xring (C := C) (w := W) hE hi
  have HI := Lib.hid hI
  have HM := Lib.hid hm
  have hn16 := hE.1.N.2.2.2.2
  have e2 : ((nF : Int) == 0) = false := beq_eq_false_iff_ne.2 (by omega)
  have e3 : ¬ (nF : Int) < frE C := by omega
  clear hI hm hck
  obtain ⟨pP, cP, pW, cW, pC, cC⟩ := ly
  unfold cfgV at *
  simp only at *
  go_enter Try.func12, Try.ntmps12
  go_wp2_with fail
  refine (mframes_any mm fb nF M _ ?_).mono ?_
  · exact HM.out.below (by go_grown)
  rintro e w1 ⟨rfl, rfl⟩
  go_wp2_with fail
  refine (HK.out _ ?_).mono ?_
  · exact HI.out.below (by go_grown)
  rintro e w1 ⟨rfl, hb⟩
  have HB := Lib.hid (show Below w.heap.size w w1 from bstep ((Below.refl _ _).alloc (Nat.le_refl _) _) hb)
  have c3 := bk_below (bk_new w (.cells #[.slice pP C.nP cP, .slice pW C.nW cW, .slice pC C.nC cC] 26)) hb
  have y0 : w1.cell? ⟨w.heap.size, 0, none⟩ = some (.slice pP C.nP cP) := (bk_cell c3 0).trans rfl
  have y1 : w1.cell? ⟨w.heap.size, 1, none⟩ = some (.slice pW C.nW cW) := (bk_cell c3 1).trans rfl
  have y2 : w1.cell? ⟨w.heap.size, 2, none⟩ = some (.slice pC C.nC cC) := (bk_cell c3 2).trans rfl
  have HC3 := Lib.hid c3
  clear c3 hb
  go_wp2_with fail
  refine (HFr.out _ (HI.out.below HB.out)).mono ?_
  rintro e w2 ⟨rfl, hb2⟩
  have HB2 := Lib.hid (bstep HB.out hb2)
  have HC4 := Lib.hid (bk_below HC3.out hb2)
  clear hb2 y0 y1 y2 HB HC3
  have y0 : w2.cell? ⟨w.heap.size, 0, none⟩ = some (.slice pP C.nP cP) := (bk_cell HC4.out 0).trans rfl
  have y1 : w2.cell? ⟨w.heap.size, 1, none⟩ = some (.slice pW C.nW cW) := (bk_cell HC4.out 1).trans rfl
  have y2 : w2.cell? ⟨w.heap.size, 2, none⟩ = some (.slice pC C.nC cC) := (bk_cell HC4.out 2).trans rfl
  have ylt := bk_lt HC4.out
  go_wp2_with fail
  refine (mframes_any mm fb nF M _ (HM.out.below HB2.out)).mono ?_
  rintro e w3 ⟨rfl, rfl⟩
  go_wp2_with fail
  go_loopw [33] (fun iv W' => ∃ (k : Nat) (R : Nat → Nat) (v : Value), k ≤ C.nC ∧ iv = .int .i64 k ∧ NI C ⟨pP, cP, pW, cW, pC, cC⟩ mm w W' w3.heap.size k R v) (fun iv _ => C.nC - (intOf iv).toNat)
  case atStart =>
    refine ⟨0, fun _ => 0, .slice none 0 0, by omega, rfl, ?_⟩
    exact ⟨HB2.out.alloc HB2.out.size _, bk_new _ _, ylt, by rw [flat_zero]; exact own_nil, fun i hi => by omega, fun i j hi => by omega, bk_alloc HC4.out _⟩
  case round =>
    obtain ⟨k, R, v, hk, rfl, hni⟩ := hrel
    clear y0 y1 y2 HB2 HC4
    have HNI := Lib.hid hni
    obtain ⟨y0, y1, y2, y3, y4, y5, y6⟩ := hni.cells
    simp only at y0 y1 y2
    have hic := HI.out.below hni.b
    clear hni
    by_cases hin : k < C.nC
    · have hin' : (k : Int) < C.nC := by omega
      rcases hic.C with h0 | ⟨b, o, e7, hc⟩
      · exact absurd h0 (by show ¬ C.nC = 0; omega)
      simp only at e7
      subst e7
      obtain ⟨d0, d1, d2, d3⟩ := hc k hin
      have HIC := Lib.hid hic
      clear hc hic
      have hbl : b < wr.heap.size := block_lt_of_cell d0
      go_wp2_with fail
      refine (HNR.out _ k hin).mono ?_
      rintro e w4 ⟨Rk, rfl, hrk, hRk, hb4⟩
      have HN4 := Lib.hid (HNI.out.below (bstep ((Below.refl _ _).alloc (Nat.le_refl _) _) hb4))
      have k4 := bk_below (bk_new wr (.cells #[.int .i64 (C.cf k), .int .i64 (C.ct k), .int .i64 (C.cc k), .int .i64 (C.cw k)] 53)) hb4
      have HR4 := Lib.hid hrk
      have HK4 := Lib.hid k4
      have hRk' : wr.heap.size < Rk := by rw [World.size_alloc] at hRk; omega
      have HIC4 := Lib.hid (HIC.out.below (bstep ((Below.refl _ _).alloc (Nat.le_refl _) _) hb4))
      clear hrk k4 hb4 y0 y1 y2 y3 y4 y5 d0 d1 d2 d3 hbl HIC hRk
      obtain ⟨y0, y1, y2, y3, y4, y5, y6'⟩ := HN4.out.cells
      simp only at y0 y1 y2
      go_wp2_with fail
      refine (HCh.out _ HIC4.out k hin).mono ?_
      rintro e w5 ⟨⟨x0, x1, rfl⟩, hb5⟩
      have HN5 := Lib.hid (HN4.out.below hb5)
      have HR5 := Lib.hid (HR4.out.below hb5)
      have HK5 := Lib.hid (bk_below HK4.out hb5)
      have HNE := Lib.hid (show ∀ i, i < k → R i ≠ Rk from fun i hi => by have := bk_lt (HNI.out.ring i hi).1; omega)
      clear hb5 y0 y1 y2 y3 y4 y5 y6' HN4 HR4 HK4 HIC4
      obtain ⟨y0, y1, y2, y3, y4, y5, y6'⟩ := HN5.out.cells
      simp only at y0 y1 y2
      have k0 : w5.cell? ⟨wr.heap.size, 0, none⟩ = some (.int .i64 (C.cf k)) := (bk_cell HK5.out 0).trans rfl
      have k1 : w5.cell? ⟨wr.heap.size, 1, none⟩ = some (.int .i64 (C.ct k)) := (bk_cell HK5.out 1).trans rfl
      have k2 : w5.cell? ⟨wr.heap.size, 2, none⟩ = some (.int .i64 (C.cc k)) := (bk_cell HK5.out 2).trans rfl
      have k3 : w5.cell? ⟨wr.heap.size, 3, none⟩ = some (.int .i64 (C.cw k)) := (bk_cell HK5.out 3).trans rfl
      have k4 := bk_lt HK5.out
      have hk8 : k ≤ 100 := by omega
      obtain ⟨a1, c1, rfl, _⟩ := own_read HN5.out.own
      go_wp2_with fail
      have HN6 := Lib.hid (HN5.out.below (W' := w5.alloc (.cells #[.pointer (some ⟨Rk, 0, none⟩), .pointer (some ⟨mm, 0, none⟩), .int .i64 (frN C k), .int .i64 (C.cf k), .int .i64 (C.ct k), .int .i64 (C.cc k), .int .i64 (C.cw k)] 84)) ((Below.refl _ _).alloc (Nat.le_refl _) _))
      go_region_law (first | (refine step_appK rfl _ _ _ rfl keX (.slice a1 k c1) k (flat 7 (chF C mm R) k) rfl (by exact HN6.out.own) w5.heap.size #[.pointer (some ⟨Rk, 0, none⟩), .pointer (some ⟨mm, 0, none⟩), .int .i64 (frN C k), .int .i64 (C.cf k), .int .i64 (C.ct k), .int .i64 (C.cc k), .int .i64 (C.cw k)] rfl (by exact ⟨_, _, bk_new w5 _⟩) rfl (by intro u hu; simp at hu; rcases hu with rfl | rfl | rfl | rfl | rfl | rfl | rfl <;> rfl) (by omega) (by simp; omega) ?_; intro g cap w6 ho6 hb6 hg6; have hb7 : Below (w3.heap.size + 1) (w5.alloc (.cells #[.pointer (some ⟨Rk, 0, none⟩), .pointer (some ⟨mm, 0, none⟩), .int .i64 (frN C k), .int .i64 (C.cf k), .int .i64 (C.ct k), .int .i64 (C.cc k), .int .i64 (C.cw k)] 84)) w6 := ⟨hb6.os, hb6.tape, hb6.output, hb6.size, hb6.block⟩; have hx6 := (hb7.block _ (by omega)).trans HN6.out.hX; have F1 : w6.cell? ⟨w3.heap.size, 1, none⟩ = some (.slice a1 k c1) := (bk_cell hx6 1).trans rfl; have F2 := bk_frozen hx6 1))
      all_goals
        go_wp2_with fail
        exact ⟨⟨k + 1, _, _, by omega, by go_num, NI.app HN6.out hb7 ⟨hg6.os, hg6.tape, hg6.output, hg6.size, hg6.block⟩ ho6 (HR5.out.alloc _) (by omega) HNE.out⟩, by simp [intOf]; omega⟩
    · obtain rfl : k = C.nC := by omega
      have hin' : ¬ (C.nC : Int) < C.nC := by omega
      go_wp2_with fail
      go_ret2
      exact ⟨_, rfl, R, v, HNI.out⟩
/-- made behind a place -/
def From (B X lb n : Nat) (R : Nat → Nat) : Prop := B ≤ X ∧ B ≤ lb ∧ ∀ i, i < n → B ≤ R i
theorem xnew_is (C : Cfg) (ly : Lay) (mm fb nF : Nat) (M : Nat → Int) (w : World) (hI : IsC w C ly) (hN : Big C) (hm : MemS w mm fb nF M) (hM : ∀ i, i < nF * 32 → 0 ≤ M i ∧ M i < 4294967296) (hF : 1 ≤ nF) (hF3 : nF ≤ 1024) (hE : CkOk C) (hF2 : frE C ≤ nF) :
    Calls Try.prog 12 #[.pointer (some ⟨mm, 0, none⟩), .agg (cfgV C ly)] w fun e w' => ∃ X p lb cap R, e = .returned (.tuple #[.pointer (some ⟨X, 0, none⟩), .int .i64 0]) ∧ IsX w' C ⟨X, p, lb, cap, mm, fb, nF, R⟩ (fun _ => 0) (fun _ => []) M ∧ From w.heap.size X lb C.nC R ∧ Below w.heap.size w w' := by
  refine (xnew_ok C ly mm fb nF M w hI hN hm hF hE hF2).mono ?_
  rintro e w' ⟨X, R, v, rfl, hn⟩
  have hl := hm.lts
  have hlt := hn.lt
  have hring := hn.ring
  have hb := hn.b
  have row := hn.own
  obtain ⟨_, ho⟩ := hn.own
  have common : ∀ (p : Option Addr) (lb cap : Nat), v = .slice p C.nC cap → (0 < C.nC → p = some ⟨lb, 0, none⟩) → X ≤ lb → (∀ i, i < C.nC → R i ≠ lb) → (∀ i, i < C.nC → ∀ r, r < 7 → w'.cell? ⟨lb, 0 + i * 7 + r, none⟩ = some (chF C mm R i r)) → IsX w' C ⟨X, p, lb, cap, mm, fb, nF, R⟩ (fun _ => 0) (fun _ => []) M ∧ From w.heap.size X lb C.nC R := by
    intro p lb cap hv hp h1 h2 h3
    subst hv
    refine ⟨⟨hE, ⟨hF2, hF3⟩, ⟨hn.inj, fun i hi => ?_, ?_⟩, hn.hX, hp, h3, hm.below hb, hM, fun i hi => (hring i hi).1, fun i hi => ⟨Lies.nil _ _ _ _, ?_, Nat.zero_le _⟩⟩, by omega, by omega, fun i hi => by have := (hring i hi).2; omega⟩
    · have := (hring i hi).2
      have := h2 i hi
      show R i ≠ mm ∧ R i ≠ fb ∧ R i ≠ X ∧ R i ≠ lb
      omega
    · have := hm.ne
      show fb ≠ X ∧ fb ≠ lb ∧ mm ≠ fb
      omega
    · have := (cN_eq hE hi).2.2.1
      show 0 < cN C i
      omega
  rcases ho with ⟨rfl, h0⟩ | ⟨g, cap, cur, rfl, hbg, hg, hnn, hmx, hs, ht⟩
  · obtain ⟨q1, q2⟩ := common none X 0 (by rw [h0]) (by omega) (Nat.le_refl _) (fun i hi => by omega) (fun i hi => by omega)
    exact ⟨X, none, X, 0, R, rfl, q1, q2, hb⟩
  · have z1 : ∀ i, i < C.nC → R i ≠ g := by
      intro i hi e
      exact own_ne row (hring i hi).1 (by decide) (by rw [e]; rfl)
    have z2 : ∀ i, i < C.nC → ∀ r, r < 7 → w'.cell? ⟨g, 0 + i * 7 + r, none⟩ = some (chF C mm R i r) := by
      intro i hi r hr
      have hfa := flat_at (F := chF C mm R) hi hr
      have hlt : i * 7 + r < C.nC * 7 := by omega
      rw [bk_cell hg (0 + i * 7 + r), Nat.zero_add]
      rw [← ht, List.getElem?_take_of_lt hlt] at hfa
      simpa using hfa
    obtain ⟨q1, q2⟩ := common (some ⟨g, 0, none⟩) g cap rfl (fun _ => rfl) (by omega) z1 z2
    exact ⟨X, _, g, cap, R, rfl, q1, q2, hb⟩
end Go.Proofs.Ytofkgceenppdbaa
