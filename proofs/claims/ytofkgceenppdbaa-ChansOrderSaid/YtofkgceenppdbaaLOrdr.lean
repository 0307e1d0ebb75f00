/- The law ChansOrder. -/
import Derived.Test.YtofkgceenppdbaaLOrdP
namespace Go.Proofs.Ytofkgceenppdbaa
open Go.RowKit
set_option linter.unusedVariables false
set_option linter.unusedSimpArgs false
theorem sl_lt {w : World} {q : IntKind} {a : Option Addr} {n : Nat} {f : Nat → Int} (h : Sl w q a n f) : ∀ b o, a = some ⟨b, o, none⟩ → 0 < n → b < w.heap.size := by
  intro b o e hn
  rcases h with h | ⟨b2, o2, e2, hc⟩
  · omega
  · rw [e] at e2
    simp only [Option.some.injEq, Addr.mk.injEq] at e2
    obtain ⟨rfl, _⟩ := e2
    exact block_lt_of_cell (hc 0 hn)
/-- all of the channels lies under a place -/
def Bd (K : CX) (n B : Nat) : Prop := K.X < B ∧ K.lb < B ∧ K.mm < B ∧ K.fb < B ∧ ∀ i, i < n → K.R i < B
theorem IsX.bnd {w : World} {C : Cfg} {K : CX} {aa : Nat → Nat} {LL : Nat → List (List Int)} {M : Nat → Int} (h : IsX w C K aa LL M) (hn : 0 < C.nC) : Bd K C.nC w.heap.size :=
  ⟨bk_lt h.hX, block_lt_of_cell (h.row 0 hn 0 (by decide)), h.mem.lts.1, h.mem.lts.2, fun i hi => bk_lt (h.ring i hi)⟩
theorem IsX.under {w w' : World} {C : Cfg} {K : CX} {aa : Nat → Nat} {LL : Nat → List (List Int)} {M : Nat → Int} {B : Nat} (h : IsX w C K aa LL M) (hb : Below B w w') (hB : Bd K C.nC B) : IsX w' C K aa LL M := by
  obtain ⟨b1, b2, b3, b4, b5⟩ := hB
  obtain ⟨cs, c1, c2⟩ := h.mem.fr
  have g : ∀ {b : Nat} {o : Obj}, b < B → w.heap[b]? = some o → w'.heap[b]? = some o := fun h1 h2 => (hb.block _ h1).trans h2
  exact ⟨h.ck, h.nF, h.ok, g b1 h.hX, h.hp, fun i hi r hr => (World.cell?_of_block (w := w) (w' := w') (hb.block _ b2)).trans (h.row i hi r hr), ⟨g b3 h.mem.hd, ⟨cs, g b4 c1, c2⟩, h.mem.ne⟩, h.bd, fun i hi => g (b5 i hi) (h.ring i hi), h.lies⟩
theorem Sys.under' {L B : Nat} {W W' : World} {C : Cfg} {K : CX} {LL : Nat → List (List Int)} {M0 : Nat → Int} (h : Sys L W C K LL M0) (hb : Below B W W') (hB : Bd K C.nC B) : Sys L W' C K LL M0 := by
  obtain ⟨aa, M, h1, h2⟩ := h.x
  exact ⟨⟨aa, M, h1.under hb hB, h2⟩, h.lo⟩
/-- under way: the messages S are in the channel, and in the law's row -/
structure OS (w : World) (Lw kb : Nat) (C : Cfg) (K : CX) (i : Nat) (A : Nat → Option Addr) (CP : Nat → Nat) (Y : Nat → List Int) (W : World) (S T : List Nat) (v : Value) : Prop where
  b : Below w.heap.size w W
  s : Sys Lw W C K (LQ i (T.map Y)) (fun _ => 0)
  k : W.heap[kb]? = some (.cells #[.int .i64 (C.cf i), .int .i64 (C.ct i), .int .i64 (C.cc i), .int .i64 (C.cw i)] 53 (0, 0))
  o : W.ownsRow (kb + 1) 41 1 v (S.map fun j => Value.slice (A j) (Y j).length (CP j)).length (S.map fun j => Value.slice (A j) (Y j).length (CP j))
section
variable {w : World} {Lw kb : Nat} {C : Cfg} {K : CX} {i : Nat} {A : Nat → Option Addr} {CP : Nat → Nat} {Y : Nat → List Int} {W W' : World} {S T T' : List Nat} {v v' : Value}
theorem OS.below (h : OS w Lw kb C K i A CP Y W S T v) (hb : Below W.heap.size W W') : OS w Lw kb C K i A CP Y W' S T v := ⟨bstep h.b hb, h.s.below hb, bk_below h.k hb, ownV_below h.o hb⟩
theorem OS.call (h : OS w Lw kb C K i A CP Y W S T v) (hB : Bd K C.nC kb) (hi : i < C.nC) (hL : w.heap.size ≤ Lw) (hs : Sys Lw W' C K (LQ i (T'.map Y)) (fun _ => 0)) (hb : Below Lw W W') (hk : Kept2 (K.R i) K.fb W W') : OS w Lw kb C K i A CP Y W' S T' v := by
  obtain ⟨b1, b2, b3, b4, b5⟩ := hB
  have b6 := b5 i hi
  exact ⟨h.b.trans (hb.mono hL), hs, hk.blk h.k (by omega) (by omega), own_kept2 h.o hk (by omega) (by omega)⟩
theorem OS.app {k : Nat} (h : OS w Lw kb C K i A CP Y W S T v) (hB : Bd K C.nC kb) (hw : w.heap.size < kb) (hb : Below (kb + 1) W W') (ho : W'.ownsRow (kb + 1) 41 1 v' (S.length + 1) ((S.map fun j => Value.slice (A j) (Y j).length (CP j)) ++ [Value.slice (A k) (Y k).length (CP k)])) :
    OS w Lw kb C K i A CP Y W' (S ++ [k]) T v' := by
  refine ⟨h.b.trans (hb.mono (by omega)), h.s.under' hb ?_, (hb.block _ (by omega)).trans h.k, by rw [List.map_append]; simpa using ho⟩
  obtain ⟨b1, b2, b3, b4, b5⟩ := hB
  exact ⟨by omega, by omega, by omega, by omega, fun j hj => by have := b5 j hj; omega⟩
theorem OS.cells (h : OS w Lw kb C K i A CP Y W S T v) : W.cell? ⟨kb, 0, none⟩ = some (.int .i64 (C.cf i)) ∧ W.cell? ⟨kb, 1, none⟩ = some (.int .i64 (C.ct i)) ∧ W.cell? ⟨kb, 2, none⟩ = some (.int .i64 (C.cc i)) ∧ W.cell? ⟨kb, 3, none⟩ = some (.int .i64 (C.cw i)) ∧ kb < W.heap.size :=
  ⟨(bk_cell h.k 0).trans rfl, (bk_cell h.k 1).trans rfl, (bk_cell h.k 2).trans rfl, (bk_cell h.k 3).trans rfl, bk_lt h.k⟩
theorem OS.row (h : OS w Lw kb C K i A CP Y W S T v) : ∃ a c, v = .slice a S.length c ∧ (∀ t k, S[t]? = some k → ∃ g, a = some ⟨g, 0, none⟩ ∧ W.cell? ⟨g, t, none⟩ = some (.slice (A k) (Y k).length (CP k))) := by
  obtain ⟨a, c, e, hsl, hlt, _, _⟩ := ownV_sl h.o
  obtain ⟨_, h3⟩ := h.o
  rw [List.length_map] at e
  refine ⟨a, c, e, fun t k ht => ?_⟩
  rcases h3 with ⟨_, h0⟩ | ⟨g, cap, cur, e2, _, hg, _, _, _, hx⟩
  · rw [List.length_map] at h0
    have := List.length_eq_zero_iff.1 h0
    subst this
    simp at ht
  · rw [e] at e2
    simp only [Value.slice.injEq] at e2
    refine ⟨g, e2.1, ?_⟩
    have hm : (S.map fun j => Value.slice (A j) (Y j).length (CP j))[t]? = some (Value.slice (A k) (Y k).length (CP k)) := by rw [List.getElem?_map, ht]; rfl
    have htl := (List.getElem?_eq_some_iff.1 hm).1
    rw [bk_cell hg t]
    rw [← hx, List.getElem?_take_of_lt (by omega)] at hm
    simpa using hm
end
set_option maxRecDepth 100000 in
set_option maxHeartbeats 4000000 in
theorem ord_in (C : Cfg) (l : Lay) (i n cap : Nat) (p : Option Addr) (A : Nat → Option Addr) (CP : Nat → Nat) (Y : Nat → List Int) (w : World) (hI : IsC w C l) (hl : longB C = false) (hok : CkOk C) (hi : i < C.nC) (hn : n ≤ 20) (hR : RowsW w p n A CP Y) :
    Calls Try.prog 4 #[.agg (cfgV C l), .int .i64 i, .slice p n cap] w fun e w' => e = .returned (.bool true) ∧ Below w.heap.size w w' := by
  obtain ⟨pP, cP, pW, cW, pC, cC⟩ := l
  have hN := short_big hl
  have HLC := Lib.hid fun (W : World) => longv C pP pW pC cP cW cC W
  have hck := fun (W : World) (h : IsC W C ⟨pP, cP, pW, cW, pC, cC⟩) => checkv C pP pW pC cP cW cC W h hN
  rw [ckE_ok hok] at hck
  rw [hl] at HLC
  obtain ⟨nF, hnF, hF1, hF2⟩ := frE_pos hok
  have hfr := fun (W : World) (h : IsC W C ⟨pP, cP, pW, cW, pC, cC⟩) => framesv C pP pW pC cP cW cC W h hN
  rw [hnF] at hfr
  have HNW := Lib.hid fun (L mm fb : Nat) (W : World) (h : IsC W C ⟨pP, cP, pW, cW, pC, cC⟩) (hm : MemS W mm fb nF (fun _ => 0)) (h1 : L ≤ mm) (h2 : L ≤ fb) => newv L C pP pW pC cP cW cC mm fb nF W h hN hm hF1 hF2 hok (by rw [hnF]; exact Int.le_refl _) h1 h2
  have HMN := Lib.hid fun (W : World) => mnew_ok nF W hF1 hF2
  have HK := Lib.hid hck
  have HFR := Lib.hid hfr
  have HI := Lib.hid hI
  have HRW := Lib.hid hR
  have HCN := Lib.hid (cN_eq hok hi)
  clear hck hfr hI hl hR
  have HU := Lib.hid (show cfgV C ⟨pP, cP, pW, cW, pC, cC⟩ = #[.slice pP C.nP cP, .slice pW C.nW cW, .slice pC C.nC cC] from rfl)
  rw [HU.out]
  have a0 : ¬ (i : Int) < 0 := by omega
  have a1 : ¬ (C.nC : Int) ≤ i := by omega
  have a2 : (i : Int) < C.nC := by omega
  have a3 : ¬ (20 : Int) < n := by omega
  have hn16 := hok.1.N.2.2.2.2
  clear HU hok hN hnF
  go_enter Try.func4, Try.ntmps4
  go_wp2_with fail
  refine (HLC.out _).mono ?_; rintro e w1 ⟨rfl, b1⟩
  have HB1 := Lib.hid (bstep (a := w) (by go_grown) b1)
  have HV := Lib.hid (show CV w1 w.heap.size C pP cP pW cW pC cC from ⟨bk_below (bk_new w _) b1, HI.out.below HB1.out⟩)
  clear b1
  obtain ⟨y0, y1, y2, y3⟩ := HV.out.cells
  go_wp2_with fail
  refine (HK.out _ HV.out.i).mono ?_; rintro e w2 ⟨rfl, b2⟩
  have HB2 := Lib.hid (bstep HB1.out b2)
  have HV2 := Lib.hid (HV.out.below b2)
  clear b2 y0 y1 y2 y3 HV HB1
  obtain ⟨y0, y1, y2, y3⟩ := HV2.out.cells
  go_wp2_with fail
  refine (HFR.out _ HV2.out.i).mono ?_; rintro e w3 ⟨rfl, b3⟩
  have HB3 := Lib.hid (bstep HB2.out b3)
  have HV3 := Lib.hid (HV2.out.below b3)
  clear b3 y0 y1 y2 y3 HV2 HB2
  go_wp2_with fail
  refine (HMN.out _).mono ?_; rintro e w4 ⟨mm, fb, rfl, hm, hm1, hm2, b4⟩
  have HM4 := Lib.hid hm
  have HB4 := Lib.hid (bstep HB3.out b4)
  have HV4 := Lib.hid (HV3.out.below b4)
  clear hm b4 HV3
  obtain ⟨y0, y1, y2, y3⟩ := HV4.out.cells
  go_wp2_with fail
  refine (HNW.out w3.heap.size mm fb w4 HV4.out.i HM4.out hm1 hm2).mono ?_; rintro e w5 ⟨K, rfl, hs, _, b5⟩
  have HS5 := Lib.hid hs
  have HB5 := Lib.hid (bstep HB4.out b5)
  have HV5 := Lib.hid (HV4.out.below b5)
  have HL5 := Lib.hid (show w.heap.size ≤ w3.heap.size from HB3.out.size)
  have HBD := Lib.hid (show Bd K C.nC w5.heap.size from by obtain ⟨aa, M, h1, _⟩ := hs.x; exact h1.bnd (by omega))
  have hwk := hs.size
  clear hs b5 HV4 y0 y1 y2 y3
  obtain ⟨y0, y1, y2, y3⟩ := HV5.out.cells
  rcases HV5.out.i.C with h0 | ⟨b, o, e7, hc⟩
  · exact absurd h0 (by show ¬ C.nC = 0; omega)
  simp only at e7
  subst e7
  obtain ⟨d0, d1, d2, d3⟩ := hc i hi
  have hbl : b < w5.heap.size := block_lt_of_cell d0
  clear hc
  go_wp2_with fail
  clear HNW HK HFR HMN HI HLC HB4 HB3 HM4
  have hnz : ((n : Int) ≤ n) := Int.le_refl _
  go_loopw [12, 13] (fun v iv W' => ∃ (k : Nat) (S : List Nat), k ≤ n ∧ iv = .int .i64 k ∧ (∀ j ∈ S, j < n ∧ 1 ≤ (Y j).length ∧ (Y j).length ≤ 100) ∧ S.length ≤ cN C i ∧ OS w w3.heap.size w5.heap.size C K i A CP Y W' S S v) (fun _ iv _ => n - (intOf iv).toNat)
  case atStart =>
    refine ⟨0, [], by omega, rfl, fun j hj => by simp at hj, by simp, ⟨HB5.out.alloc HB5.out.size _, ?_, bk_new w5 _, ⟨by simp, .inl ⟨rfl, rfl⟩⟩⟩⟩
    show Sys _ _ C K (LQ i []) _
    rw [LQ_nil]
    exact HS5.out.below (by go_grown)
  case round =>
    obtain ⟨k, S, hk, rfl, hS, hSl, hos⟩ := hrel
    have HOS := Lib.hid hos
    have HSJ := Lib.hid hS
    clear hS y0 y1 y2 y3 d0 d1 d2 d3 hbl
    obtain ⟨k0, k1, k2, k3, klt⟩ := hos.cells
    obtain ⟨sa, sc, rfl, _⟩ := hos.row
    clear hos
    by_cases hkn : k < n
    · have hkn' : (k : Int) < n := by omega
      have hk0 : (0 : Int) ≤ (k : Int) := by omega
      rcases HRW.out with h0 | ⟨rb, ro, rfl, hrw⟩
      · omega
      obtain ⟨t0, t1, t2, t3, t4⟩ := hrw k hkn
      have c0 := keepc HOS.out.b t0
      have HT0 := Lib.hid t0
      have HT1 := Lib.hid t1
      have HT2 := Lib.hid t2
      clear t0 t1 t2 hrw t4
      by_cases h100 : 100 < (Y k).length
      · have h100' : (100 : Int) < (Y k).length := by omega
        go_wp2_with fail
        refine (awake_any _).mono ?_; rintro e w12 ⟨rfl, b12⟩
        go_wp2
        go_ret
        exact ⟨rfl, bstep HOS.out.b b12⟩
      · have h100' : ¬ (100 : Int) < (Y k).length := by omega
        have HSD := Lib.hid fun (W : World) (h : Sys w3.heap.size W C K (LQ i (S.map Y)) (fun _ => 0)) (hb : Below w.heap.size w W) => o_send hi (A k) (Y k) (CP k) h (HT1.out.below hb) HT2.out (fun b' o' e h0 => Nat.lt_of_lt_of_le (sl_lt HT1.out b' o' e h0) HL5.out)
        obtain ⟨l1, l2, l3, l4, l5, l6⟩ := HCN.out
        by_cases x1 : (Y k).length < 1
        · have e1 : sE C i (S.map Y) (Y k).length = 2 := if_pos (.inl x1)
          have e2 : sL C i (S.map Y) (Y k) = S.map Y := if_neg (by rw [e1]; decide)
          rw [e1, e2] at HSD
          have g1 : ¬ (1 : Int) ≤ (Y k).length := by omega
          have g2 : decide ((1 : Int) ≤ (Y k).length) = false := decide_eq_false g1
          have g3 : decide (((Y k).length : Int) ≥ 1) = false := decide_eq_false g1
          clear e1 e2 l1 l2 l3 l4 l5 l6
          go_wp2_with fail
          go_region_with (first
            | (go_at_call 14
               refine (HSD.out _ ?_ ?_).mono ?_
               · exact HOS.out.s.below (bdrew (Below.refl _ _))
               · exact bdrew HOS.out.b
               rintro e w6 ⟨rfl, hs6, hb6, hk6⟩
               have HOS6 := Lib.hid ((HOS.out.below (bdrew (Below.refl _ _))).call HBD.out hi HL5.out hs6 hb6 hk6)
               clear hs6 hb6 hk6))
          all_goals
            have c06 := keepc HOS6.out.b HT0.out
            obtain ⟨z0, z1, z2, z3, zlt⟩ := HOS6.out.cells
            clear c0 k0 k1 k2 k3
            go_wp2_with fail
            refine wp_region_held_drew (S := (fun W' => W'.cell? ⟨rb, ro + k, none⟩ = some (.slice (A k) (Y k).length (CP k)) ∧ W'.cell? ⟨w5.heap.size, 3, none⟩ = some (.int .i64 (C.cw i)) ∧ OS w w3.heap.size w5.heap.size C K i A CP Y W' S S (.slice sa S.length sc))) (by kernel_rfl) ?_ (fun hHeld => ?_)
            · (try dsimp only); exact ⟨c06, z3, HOS6.out.below (bdrew (Below.refl _ _))⟩
            refine wpAnyH_take (i := 0) (v := ?_) rfl (by kernel_rfl) (by kernel_rfl) (by kernel_rfl) (fun _ _ _ h => h) (Or.inl ⟨by rfl, ?_⟩) (by assumption) ?_
            rotate_left
            · intro W hSw; (try dsimp only at hSw); (try simp only [List.getElem_toArray, List.getElem_cons_succ, List.getElem_cons_zero]); go_simp; try with_reducible rfl
            try simp only [Act.put, List.setIfInBounds_toArray, List.set_cons_zero, List.set_cons_succ, List.getElem_toArray, List.getElem_cons_succ, List.getElem_cons_zero]
            refine wpAnyH_take (i := 1) (v := ?_) rfl (by kernel_rfl) (by kernel_rfl) (by kernel_rfl) (fun _ _ _ h => h) (Or.inl ⟨by rfl, ?_⟩) (by assumption) ?_
            rotate_left
            · intro W hSw; (try dsimp only at hSw); (try simp only [List.getElem_toArray, List.getElem_cons_succ, List.getElem_cons_zero]); go_simp; try with_reducible rfl
            try simp only [Act.put, List.setIfInBounds_toArray, List.set_cons_zero, List.set_cons_succ, List.getElem_toArray, List.getElem_cons_succ, List.getElem_cons_zero]
            refine wpAnyH_take (i := 2) (v := ?_) rfl (by kernel_rfl) (by kernel_rfl) (by kernel_rfl) (fun _ _ _ h => h) (Or.inl ⟨by rfl, ?_⟩) (by assumption) ?_
            rotate_left
            · intro W hSw; (try dsimp only at hSw); (try simp only [List.getElem_toArray, List.getElem_cons_succ, List.getElem_cons_zero]); go_simp; try with_reducible rfl
            try simp only [Act.put, List.setIfInBounds_toArray, List.set_cons_zero, List.set_cons_succ, List.getElem_toArray, List.getElem_cons_succ, List.getElem_cons_zero]
            refine wpAnyH_take (i := 3) (v := ?_) rfl (by kernel_rfl) (by kernel_rfl) (by kernel_rfl) (fun _ _ _ h => h) (Or.inl ⟨by rfl, ?_⟩) (by assumption) ?_
            rotate_left
            · intro W hSw; (try dsimp only at hSw); (try simp only [List.getElem_toArray, List.getElem_cons_succ, List.getElem_cons_zero]); go_simp; try with_reducible rfl
            try simp only [Act.put, List.setIfInBounds_toArray, List.set_cons_zero, List.set_cons_succ, List.getElem_toArray, List.getElem_cons_succ, List.getElem_cons_zero]
            refine wpAnyH_take (i := 4) (v := ?_) rfl (by kernel_rfl) (by kernel_rfl) (by kernel_rfl) (fun _ _ _ h => h) (Or.inl ⟨by rfl, ?_⟩) (by assumption) ?_
            rotate_left
            · intro W hSw; (try dsimp only at hSw); (try simp only [List.getElem_toArray, List.getElem_cons_succ, List.getElem_cons_zero]); go_simp; try with_reducible rfl
            try simp only [Act.put, List.setIfInBounds_toArray, List.set_cons_zero, List.set_cons_succ, List.getElem_toArray, List.getElem_cons_succ, List.getElem_cons_zero]
            refine wpAnyH_take (i := 5) (v := ?_) rfl (by kernel_rfl) (by kernel_rfl) (by kernel_rfl) (fun _ _ _ h => h) (Or.inl ⟨by rfl, ?_⟩) (by assumption) ?_
            rotate_left
            · intro W hSw; (try dsimp only at hSw); (try simp only [List.getElem_toArray, List.getElem_cons_succ, List.getElem_cons_zero]); go_simp; try with_reducible rfl
            try simp only [Act.put, List.setIfInBounds_toArray, List.set_cons_zero, List.set_cons_succ, List.getElem_toArray, List.getElem_cons_succ, List.getElem_cons_zero]
            refine wpAnyH_take (i := 6) (v := ?_) rfl (by kernel_rfl) (by kernel_rfl) (by kernel_rfl) (fun _ _ _ h => h) (Or.inl ⟨by rfl, ?_⟩) (by assumption) ?_
            rotate_left
            · intro W hSw; (try dsimp only at hSw); (try simp only [List.getElem_toArray, List.getElem_cons_succ, List.getElem_cons_zero]); go_simp; try with_reducible rfl
            try simp only [Act.put, List.setIfInBounds_toArray, List.set_cons_zero, List.set_cons_succ, List.getElem_toArray, List.getElem_cons_succ, List.getElem_cons_zero]
            refine wpAnyH_take (i := 7) (v := undef) rfl (by kernel_rfl) (by kernel_rfl) (by kernel_rfl) (fun _ _ _ h => h) (Or.inr ⟨by kernel_rfl, rfl⟩) (by assumption) ?_
            try simp only [Act.put, List.setIfInBounds_toArray, List.set_cons_zero, List.set_cons_succ, List.getElem_toArray, List.getElem_cons_succ, List.getElem_cons_zero]
            refine wpAnyH_take (i := 8) (v := undef) rfl (by kernel_rfl) (by kernel_rfl) (by kernel_rfl) (fun _ _ _ h => h) (Or.inr ⟨by kernel_rfl, rfl⟩) (by assumption) ?_
            try simp only [Act.put, List.setIfInBounds_toArray, List.set_cons_zero, List.set_cons_succ, List.getElem_toArray, List.getElem_cons_succ, List.getElem_cons_zero]
            refine wpAnyH_take (i := 9) (v := undef) rfl (by kernel_rfl) (by kernel_rfl) (by kernel_rfl) (fun _ _ _ h => h) (Or.inr ⟨by kernel_rfl, rfl⟩) (by assumption) ?_
            try simp only [Act.put, List.setIfInBounds_toArray, List.set_cons_zero, List.set_cons_succ, List.getElem_toArray, List.getElem_cons_succ, List.getElem_cons_zero]
            refine wpAnyH_take (i := 10) (v := undef) rfl (by kernel_rfl) (by kernel_rfl) (by kernel_rfl) (fun _ _ _ h => h) (Or.inr ⟨by kernel_rfl, rfl⟩) (by assumption) ?_
            try simp only [Act.put, List.setIfInBounds_toArray, List.set_cons_zero, List.set_cons_succ, List.getElem_toArray, List.getElem_cons_succ, List.getElem_cons_zero]
            refine wpAnyH_take (i := 11) (v := undef) rfl (by kernel_rfl) (by kernel_rfl) (by kernel_rfl) (fun _ _ _ h => h) (Or.inr ⟨by kernel_rfl, rfl⟩) (by assumption) ?_
            try simp only [Act.put, List.setIfInBounds_toArray, List.set_cons_zero, List.set_cons_succ, List.getElem_toArray, List.getElem_cons_succ, List.getElem_cons_zero]
            refine wpAnyH_take (i := 12) (v := undef) rfl (by kernel_rfl) (by kernel_rfl) (by kernel_rfl) (fun _ _ _ h => h) (Or.inr ⟨by kernel_rfl, rfl⟩) (by assumption) ?_
            try simp only [Act.put, List.setIfInBounds_toArray, List.set_cons_zero, List.set_cons_succ, List.getElem_toArray, List.getElem_cons_succ, List.getElem_cons_zero]
            refine wpAnyH_take (i := 13) (v := undef) rfl (by kernel_rfl) (by kernel_rfl) (by kernel_rfl) (fun _ _ _ h => h) (Or.inr ⟨by kernel_rfl, rfl⟩) (by assumption) ?_
            try simp only [Act.put, List.setIfInBounds_toArray, List.set_cons_zero, List.set_cons_succ, List.getElem_toArray, List.getElem_cons_succ, List.getElem_cons_zero]
            refine wpAnyH_take (i := 14) (v := undef) rfl (by kernel_rfl) (by kernel_rfl) (by kernel_rfl) (fun _ _ _ h => h) (Or.inr ⟨by kernel_rfl, rfl⟩) (by assumption) ?_
            try simp only [Act.put, List.setIfInBounds_toArray, List.set_cons_zero, List.set_cons_succ, List.getElem_toArray, List.getElem_cons_succ, List.getElem_cons_zero]
            refine wpAnyH_take (i := 15) (v := ?_) rfl (by kernel_rfl) (by kernel_rfl) (by kernel_rfl) (fun _ _ _ h => h) (Or.inl ⟨by rfl, ?_⟩) (by assumption) ?_
            rotate_left
            · intro W hSw; (try dsimp only at hSw); (try simp only [List.getElem_toArray, List.getElem_cons_succ, List.getElem_cons_zero]); go_simp; try with_reducible rfl
            try simp only [Act.put, List.setIfInBounds_toArray, List.set_cons_zero, List.set_cons_succ, List.getElem_toArray, List.getElem_cons_succ, List.getElem_cons_zero]
            refine wpAnyH_take (i := 16) (v := ?_) rfl (by kernel_rfl) (by kernel_rfl) (by kernel_rfl) (fun _ _ _ h => h) (Or.inl ⟨by rfl, ?_⟩) (by assumption) ?_
            rotate_left
            · intro W hSw; (try dsimp only at hSw); (try simp only [List.getElem_toArray, List.getElem_cons_succ, List.getElem_cons_zero]); go_simp; try with_reducible rfl
            try simp only [Act.put, List.setIfInBounds_toArray, List.set_cons_zero, List.set_cons_succ, List.getElem_toArray, List.getElem_cons_succ, List.getElem_cons_zero]
            refine wpAnyH_done (by kernel_rfl) ?_ _
            go_wp2_with fail
            exact ⟨⟨k + 1, S, by omega, by go_num, HSJ.out, hSl, HOS6.out.below (bdrew (Below.refl _ _))⟩, by simp [intOf]; omega⟩
        by_cases x2 : dN C i < (Y k).length
        · have e1 : sE C i (S.map Y) (Y k).length = 2 := if_pos (.inr x2)
          have e2 : sL C i (S.map Y) (Y k) = S.map Y := if_neg (by rw [e1]; decide)
          rw [e1, e2] at HSD
          have g1 : (1 : Int) ≤ (Y k).length := by omega
          have g2 : decide ((1 : Int) ≤ (Y k).length) = true := decide_eq_true g1
          have g4 : ¬ ((Y k).length : Int) ≤ C.cw i := by omega
          have g5 : decide (((Y k).length : Int) ≤ C.cw i) = false := decide_eq_false g4
          clear e1 e2 l1 l2 l3 l4 l5 l6
          go_wp2_with fail
          go_region_with (first
            | (go_at_call 14
               refine (HSD.out _ ?_ ?_).mono ?_
               · exact HOS.out.s.below (bdrew (Below.refl _ _))
               · exact bdrew HOS.out.b
               rintro e w6 ⟨rfl, hs6, hb6, hk6⟩
               have HOS6 := Lib.hid ((HOS.out.below (bdrew (Below.refl _ _))).call HBD.out hi HL5.out hs6 hb6 hk6)
               clear hs6 hb6 hk6))
          all_goals
            have c06 := keepc HOS6.out.b HT0.out
            obtain ⟨z0, z1, z2, z3, zlt⟩ := HOS6.out.cells
            clear c0 k0 k1 k2 k3
            go_wp2_with fail
            go_quiet (fail)
            go_wp2_with fail
            exact ⟨⟨k + 1, S, by omega, by go_num, HSJ.out, hSl, HOS6.out.below (bdrewN (Below.refl _ _) _)⟩, by simp [intOf]; omega⟩
        have e0 : sE C i (S.map Y) (Y k).length = if S.length = cN C i then 12 else 0 := by
          unfold sE
          rw [if_neg (by omega), List.length_map]
        have g1 : (1 : Int) ≤ (Y k).length := by omega
        have g2 : decide ((1 : Int) ≤ (Y k).length) = true := decide_eq_true g1
        have g4 : ((Y k).length : Int) ≤ C.cw i := by omega
        have g5 : decide (((Y k).length : Int) ≤ C.cw i) = true := decide_eq_true g4
        by_cases x3 : S.length = cN C i
        · have e1 : sE C i (S.map Y) (Y k).length = 12 := by rw [e0, if_pos x3]
          have e2 : sL C i (S.map Y) (Y k) = S.map Y := if_neg (by rw [e1]; decide)
          rw [e1, e2] at HSD
          have g6 : ¬ (S.length : Int) < C.cc i := by omega
          have g7 : decide ((S.length : Int) < C.cc i) = false := decide_eq_false g6
          clear e0 e1 e2 l1 l2 l3 l4 l5 l6 x3
          go_wp2_with fail
          go_region_with (first
            | (go_at_call 14
               refine (HSD.out _ ?_ ?_).mono ?_
               · exact HOS.out.s.below (bdrew (Below.refl _ _))
               · exact bdrew HOS.out.b
               rintro e w6 ⟨rfl, hs6, hb6, hk6⟩
               have HOS6 := Lib.hid ((HOS.out.below (bdrew (Below.refl _ _))).call HBD.out hi HL5.out hs6 hb6 hk6)
               clear hs6 hb6 hk6))
          all_goals
            have c06 := keepc HOS6.out.b HT0.out
            obtain ⟨z0, z1, z2, z3, zlt⟩ := HOS6.out.cells
            clear c0 k0 k1 k2 k3
            go_wp2_with fail
            go_quiet (fail)
            go_wp2_with fail
            exact ⟨⟨k + 1, S, by omega, by go_num, HSJ.out, hSl, HOS6.out.below (bdrewN (Below.refl _ _) _)⟩, by simp [intOf]; omega⟩
        · have e1 : sE C i (S.map Y) (Y k).length = 0 := by rw [e0, if_neg x3]
          have e2 : sL C i (S.map Y) (Y k) = (S ++ [k]).map Y := by
            unfold sL
            rw [if_pos e1, List.map_append]
            rfl
          rw [e1, e2] at HSD
          have g6 : (S.length : Int) < C.cc i := by omega
          have g7 : decide ((S.length : Int) < C.cc i) = true := decide_eq_true g6
          have hS8 : S.length ≤ 8 := by omega
          have hS9 : S.length + 1 ≤ cN C i := by omega
          clear e0 e1 e2 l1 l2 l3 l4 l5 l6 x3
          go_wp2_with fail
          go_region_with (first
            | (go_at_call 14
               refine (HSD.out _ ?_ ?_).mono ?_
               · exact HOS.out.s.below (bdrew (Below.refl _ _))
               · exact bdrew HOS.out.b
               rintro e w6 ⟨rfl, hs6, hb6, hk6⟩
               have HOS6 := Lib.hid ((HOS.out.below (bdrew (Below.refl _ _))).call HBD.out hi HL5.out hs6 hb6 hk6)
               clear hs6 hb6 hk6))
          all_goals
            have c06 := keepc HOS6.out.b HT0.out
            obtain ⟨z0, z1, z2, z3, zlt⟩ := HOS6.out.cells
            clear c0 k0 k1 k2 k3
            go_wp2_with fail
            go_quiet (fail)
            have hv := HOS6.out.below (bdrewN (Below.refl w6.heap.size w6) nq)
            have cv := keepc (bdrewN (Below.refl w6.heap.size w6) nq) c06
            clear c06 z0 z1 z2 z3 zlt
            generalize w6.drewN nq = V at hv cv ⊢
            have HVO := Lib.hid hv
            obtain ⟨z0, z1, z2, z3, zlt⟩ := hv.cells
            clear hv
            go_wp2_with (at_builtin; refine appV rfl _ _ _ rfl oeR (.slice sa S.length sc) (S.map fun j => Value.slice (A j) (Y j).length (CP j)) [.slice (A k) (Y k).length (CP k)] (by rfl) (ownV_below HVO.out.o ((Below.refl _ _).alloc (Nat.le_refl _) _)) (some ⟨V.heap.size, 0, none⟩) 1 (by rfl) (fun e => by cases e) (.inr ⟨V.heap.size, 0, rfl, fun i u hi => by
                match i, hi with
                | 0, hi =>
                  simp at hi
                  subst hi
                  exact (bk_cell (bk_new V _) 0).trans rfl⟩) (fun u hu => by simp at hu; subst hu; rfl) (by simp; omega) (by simp; omega) ?c1)
            case c1 =>
              intro v7 w7 o7 b7 g7'
              have hos7 := OS.app (k := k) (v' := v7) HVO.out HBD.out (Nat.lt_of_le_of_lt HL5.out hwk) (((Below.refl V.heap.size V).alloc (Nat.le_refl _) _).mono (by omega) |>.trans b7) o7
              clear b7 g7' o7
              go_wp2_with fail
              refine ⟨⟨k + 1, S ++ [k], by omega, by go_num, fun j hj => ?_, by simp; omega, hos7⟩, by simp [intOf]; omega⟩
              rcases List.mem_append.1 hj with h | h
              · exact HSJ.out j h
              · simp at h
                subst h
                omega
    · obtain rfl : k = n := by omega
      obtain ⟨wo, rfl⟩ : ∃ wo : World, wo = wr := ⟨_, rfl⟩
      clear hkn
      have hcc := HCN.out.1
      have q1 : IntKind.i64.wrap (C.cc i - S.length) = C.cc i - S.length := IntWalk.i64_in _ (by have := HCN.out.2.2.2.1; omega)
      have q2 : (C.cc i - (S.length : Int) == C.cc i - S.length) = true := by simp
      have HRM := Lib.hid fun (W : World) (h : Sys w3.heap.size W C K (LQ i (S.map Y)) (fun _ => 0)) => o_room hi h
      rw [List.length_map] at HRM
      go_wp2_with fail
      go_region_with (first
        | (go_at_call 20
           refine (HRM.out _ ?_).mono ?_
           · exact HOS.out.s.below (bdrew (Below.refl _ _))
           rintro e w6 ⟨rfl, hb6⟩
           have HOS6 := Lib.hid (HOS.out.below (bstep (bdrew (Below.refl wo.heap.size wo)) hb6))
           obtain ⟨z0, z1, z2, z3, zlt⟩ := HOS6.out.cells
           clear hb6))
      all_goals
        go_wp2_with fail
        clear z0 z1 z2 z3 zlt q1 q2 k0 k1 k2 k3
        go_loopw [16] (fun iv W' => ∃ k : Nat, k ≤ S.length ∧ iv = .int .i64 k ∧ OS w w3.heap.size w5.heap.size C K i A CP Y W' S (S.drop k) (.slice sa S.length sc)) (fun iv _ => S.length - (intOf iv).toNat)
        case atStart => exact ⟨0, by omega, rfl, by rw [List.drop_zero]; exact HOS6.out⟩
        case round =>
          obtain ⟨t, ht, rfl, hos⟩ := hrel
          have HX := Lib.hid hos
          obtain ⟨z0, z1, z2, z3, zlt⟩ := hos.cells
          obtain ⟨_, _, e9, hrow⟩ := hos.row
          simp only [Value.slice.injEq, true_and] at e9
          obtain ⟨rfl, rfl⟩ := e9
          clear hos
          by_cases htn : t < S.length
          · have htn' : (t : Int) < S.length := by omega
            have ht0 : (0 : Int) ≤ (t : Int) := by omega
            have HT9 := Lib.hid htn
            have h8 := HCN.out.2.2.2.1
            have h7 : t + 1 ≤ 8 := by omega
            clear h8
            obtain ⟨j, hj⟩ : ∃ j, S[t]? = some j := ⟨S[t], List.getElem?_eq_getElem htn⟩
            obtain ⟨g, rfl, hg⟩ := hrow t j hj
            have hmem : j ∈ S := List.mem_of_getElem? hj
            obtain ⟨hjn, hj1, hj100⟩ := HSJ.out j hmem
            have hdr : S.drop t = j :: S.drop (t + 1) := by
              rw [List.drop_eq_getElem_cons htn]
              congr 1
              rw [List.getElem?_eq_getElem htn] at hj
              exact Option.some.inj hj
            have hst := HX.out.s
            rw [hdr] at hst
            have HST := Lib.hid hst
            rcases HRW.out with h0 | ⟨rb, ro, rfl, hrw⟩
            · omega
            obtain ⟨t0, t1, t2, t3, t4⟩ := hrw j hjn
            have HT1 := Lib.hid t1
            clear t0 t1 t2 hrw hrow hst hdr
            have HNX := Lib.hid fun (W : World) (h : Sys w3.heap.size W C K (LQ i ((j :: S.drop (t + 1)).map Y)) (fun _ => 0)) => o_next hi h
            have HRC := Lib.hid fun (W : World) (h : Sys w3.heap.size W C K (LQ i ((j :: S.drop (t + 1)).map Y)) (fun _ => 0)) => o_recv hi h
            simp only [List.map_cons, List.headD_cons, List.tail_cons, List.cons_ne_nil, reduceCtorEq, if_false] at HNX HRC HST
            clear hg
            go_wp2_with fail
            refine (HNX.out _ HST.out).mono ?_; rintro e w7 ⟨rfl, b7⟩
            have HX7 := Lib.hid (HX.out.below b7)
            have HST7 := Lib.hid (HST.out.below b7)
            clear b7 z0 z1 z2 z3 zlt HX HST HNX
            obtain ⟨z0, z1, z2, z3, zlt⟩ := HX7.out.cells
            go_wp2_with fail
            refine (HRC.out _ HST7.out).mono ?_; rintro e w8 ⟨v8, rfl, ho8, hs8, hb8, hk8⟩
            have HX8 := Lib.hid (HX7.out.call (T' := S.drop (t + 1)) HBD.out hi HL5.out hs8 hb8 hk8)
            obtain ⟨pa, pc, rfl, hsl8, _⟩ := own_sl ho8
            have HSL8 := Lib.hid hsl8
            clear ho8 hs8 hb8 hk8 hsl8 z0 z1 z2 z3 zlt HX7 HST7 HRC
            obtain ⟨z0, z1, z2, z3, zlt⟩ := HX8.out.cells
            obtain ⟨_, _, e9, hrow8⟩ := HX8.out.row
            simp only [Value.slice.injEq, true_and] at e9
            obtain ⟨rfl, rfl⟩ := e9
            obtain ⟨g8, e9, hg8⟩ := hrow8 t j hj
            simp only [Option.some.injEq, Addr.mk.injEq, and_true] at e9
            subst e9
            clear hrow8
            have x5 : (((Y j).length : Int) == (Y j).length) = true := by simp
            go_wp2_with fail
            refine (same_yes _ _ _ _ (Y j) _ HSL8.out (HT1.out.below HX8.out.b) (by omega)).mono ?_; rintro e w9 ⟨rfl, b9⟩
            have HX9 := Lib.hid (HX8.out.below b9)
            clear b9 z0 z1 z2 z3 zlt hg8
            go_wp2_with fail
            have h9 := HT9.out
            exact ⟨⟨t + 1, h9, by go_num, HX9.out⟩, by simp [intOf]; omega⟩
          · obtain rfl : t = S.length := by omega
            have hst := HX.out.s
            rw [List.drop_length] at hst
            have HST := Lib.hid hst
            have HNX := Lib.hid fun (W : World) (h : Sys w3.heap.size W C K (LQ i ([].map Y)) (fun _ => 0)) => o_next hi h
            have HRC := Lib.hid fun (W : World) (h : Sys w3.heap.size W C K (LQ i ([].map Y)) (fun _ => 0)) => o_recv hi h
            simp only [List.map_nil, List.headD_nil, List.tail_nil, if_true, List.length_nil, Int.ofNat_zero, Int.natCast_zero] at HNX HRC HST
            have hnn : ¬ (S.length : Int) < S.length := by omega
            clear hst hrow htn
            go_wp2_with fail
            refine (HRC.out _ HST.out).mono ?_; rintro e w8 ⟨v8, rfl, ho8, hs8, hb8, hk8⟩
            have HX8 := Lib.hid (HX.out.call (T' := []) HBD.out hi HL5.out hs8 hb8 hk8)
            have HST8 := Lib.hid hs8
            clear ho8 hs8 hb8 hk8 z0 z1 z2 z3 zlt HX HST HRC
            obtain ⟨z0, z1, z2, z3, zlt⟩ := HX8.out.cells
            go_wp2_with fail
            refine (HNX.out _ HST8.out).mono ?_; rintro e w9 ⟨rfl, b9⟩
            have HB9 := Lib.hid (bstep HX8.out.b b9)
            clear b9 z0 z1 z2 z3 zlt
            go_wp2_with fail
            refine (awake_any _).mono ?_; rintro e w12 ⟨rfl, b12⟩
            go_wp2
            go_ret
            exact ⟨rfl, bstep HB9.out b12⟩
theorem ChansOrder_any (C : Cfg) (l : Lay) (ch : Int) (p : Option Addr) (n cap : Nat) (A : Nat → Option Addr) (CP : Nat → Nat) (Y : Nat → List Int) (w : World) (hI : IsC w C l) (hR : RowsW w p n A CP Y) :
    Calls Try.prog 4 #[.agg (cfgV C l), .int .i64 ch, .slice p n cap] w fun e w' => e = .returned (.bool true) ∧ Below w.heap.size w w' := by
  by_cases h : longB C = true ∨ ¬ CkOk C ∨ ch < 0 ∨ C.nC ≤ ch ∨ 20 < n
  · exact ord_out C l ch p n cap w hI h
  · obtain ⟨i, rfl⟩ : ∃ i : Nat, ch = i := ⟨ch.toNat, by omega⟩
    exact ord_in C l i n cap p A CP Y w hI (by cases hl : longB C <;> simp_all) (by exact Classical.byContradiction fun h' => h (.inr (.inl h'))) (by omega) (by omega) hR
end Go.Proofs.Ytofkgceenppdbaa
