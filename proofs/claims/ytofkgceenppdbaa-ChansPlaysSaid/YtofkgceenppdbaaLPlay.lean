/- The law ChansPlays. -/
import Derived.Test.YtofkgceenppdbaaLPlyO
namespace Go.Proofs.Ytofkgceenppdbaa
open Go.RowKit
set_option linter.unusedVariables false
set_option linter.unusedSimpArgs false
theorem CV.keep {w W W' : World} {L : Nat} {C : Cfg} {p q r : Option Addr} {c d k : Nat} (h : CV W w.heap.size C p c q d r k) (hI : IsC w C ⟨p, c, q, d, r, k⟩) (hb : Below L W W') (hg : w.heap.size < L) (hB : Below w.heap.size w W') : CV W' w.heap.size C p c q d r k :=
  ⟨(hb.block _ hg).trans h.h, hI.below hB⟩
theorem sl_lt {w : World} {q : IntKind} {a : Option Addr} {n : Nat} {f : Nat → Int} (h : Sl w q a n f) : ∀ b o, a = some ⟨b, o, none⟩ → 0 < n → b < w.heap.size := by
  intro b o e hn
  rcases h with h | ⟨b2, o2, e2, hc⟩
  · omega
  · rw [e] at e2
    simp only [Option.some.injEq, Addr.mk.injEq] at e2
    obtain ⟨rfl, _⟩ := e2
    exact block_lt_of_cell (hc 0 hn)
theorem sl4_lt {w : World} {a : Option Addr} {n : Nat} {X Y Z U : Nat → Int} (h : Sl4 w a n X Y Z U) : ∀ b o, a = some ⟨b, o, none⟩ → 0 < n → b < w.heap.size := by
  intro b o e hn
  rcases h with h | ⟨b2, o2, e2, hc⟩
  · omega
  · rw [e] at e2
    simp only [Option.some.injEq, Addr.mk.injEq] at e2
    obtain ⟨rfl, _⟩ := e2
    exact block_lt_of_cell (hc 0 hn).1
theorem newv2 (L : Nat) (C : Cfg) (pP pW pC : Option Addr) (cP cW cC : Nat) (mm fb nF : Nat) (w : World) (hI : IsC w C ⟨pP, cP, pW, cW, pC, cC⟩) (hN : Big C) (hm : MemS w mm fb nF (fun _ => 0)) (hF : 1 ≤ nF) (hF3 : nF ≤ 1024) (hE : CkOk C) (hF2 : frE C ≤ nF) (h1 : L ≤ mm) (h2 : L ≤ fb) :
    Calls Try.prog 12 #[.pointer (some ⟨mm, 0, none⟩), .agg #[.slice pP C.nP cP, .slice pW C.nW cW, .slice pC C.nC cC]] w fun e w' => ∃ K, e = .returned (.tuple #[.pointer (some ⟨K.X, 0, none⟩), .int .i64 0]) ∧ Sys L w' C K (fun _ => []) (fun _ => 0) ∧ Bef K C.nC w'.heap.size ∧ Below w.heap.size w w' := by
  refine (sys_new2 C ⟨pP, cP, pW, cW, pC, cC⟩ mm fb nF w hI hN hm hF hF3 hE hF2 h1 h2).mono ?_
  rintro e w' ⟨K, rfl, hs, _, _, hx, hb⟩
  exact ⟨K, rfl, hs, ⟨bk_lt hx.hX, hx.mem.lts.1, hx.mem.lts.2, fun h0 => block_lt_of_cell (hx.row 0 h0 0 (by decide)), fun i hi => bk_lt (hx.ring i hi)⟩, hb⟩
/-- the reference just made -/
theorem refx_new {C : Cfg} {pC p : Option Addr} {cC cap Lg : Nat} {w : World} (h : SlF w 4 p C.nC (rf0 C)) (h1 : ∀ b o, p = some ⟨b, o, none⟩ → Lg + 1 ≤ b ∧ o = 0) (h2 : p = none → C.nC = 0 ∧ cap = 0) (h3 : C.nC ≤ cap) (h4 : Lg ≤ w.heap.size) :
    RefX (w.alloc (.cells #[.slice pC C.nC cC, .slice p C.nC cap] 61)) w.heap.size Lg C pC cC 0 (fun _ => []) := by
  have hal : Below w.heap.size w (w.alloc (.cells #[.slice pC C.nC cC, .slice p C.nC cap] 61)) := (Below.refl _ _).alloc (Nat.le_refl _) _
  obtain ⟨b, hb⟩ : ∃ b, (0 < C.nC → p = some ⟨b, 0, none⟩ ∧ RP Lg w.heap.size b) ∧ ∀ i, i < C.nC → ∀ r, r < 4 → w.cell? ⟨b, i * 4 + r, none⟩ = some (rf0 C i r) := by
    rcases h with h0 | ⟨b, o, rfl, hc⟩
    · exact ⟨0, fun h => by omega, fun i hi => by omega⟩
    · obtain ⟨g1, rfl⟩ := h1 b o rfl
      refine ⟨b, fun hn => ⟨rfl, by omega, ?_⟩, fun i hi r hr => by have := hc i hi r hr; rwa [Nat.zero_add] at this⟩
      have hbl : b < w.heap.size := block_lt_of_cell (hc 0 hn 0 (by decide))
      omega
  exact ⟨h4, p, b, cap, fun _ => none, fun _ => 0, fun _ => 0, fun _ => [], bk_new w _, hb.1, h3, h2, fun i hi r hr => keepc hal (hb.2 i hi r hr), fun _ _ => Nat.le_refl _, fun i hi => ⟨rfl, .inl rfl, fun _ => ⟨rfl, rfl⟩, Nat.le_refl _, fun k xs h => by simp at h⟩, fun i hi => Nat.zero_le _⟩
set_option maxRecDepth 100000 in
set_option maxHeartbeats 40000000 in
theorem plays_in (C : Cfg) (l : Lay) (nF n cap : Nat) (p : Option Addr) (D P H : Nat → Int) (A : Nat → Option Addr) (CP : Nat → Nat) (Y : Nat → List Int) (w : World) (hI : IsC w C l) (hl : longB C = false) (hn : n ≤ 100) (hf1 : 1 ≤ nF) (hf2 : nF ≤ 1024) (hok : CkOk C) (hfr : frE C ≤ nF) (hR : ScrW w p n D P H A CP Y) :
    Calls Try.prog 6 #[.agg (cfgV C l), .int .i64 nF, .slice p n cap] w fun e w' => e = .returned (.bool true) ∧ Below w.heap.size w w' := by
  obtain ⟨pP, cP, pW, cW, pC, cC⟩ := l
  have HLC := Lib.hid fun (W : World) => longv C pP pW pC cP cW cC W
  have hN := short_big hl
  have HI := Lib.hid hI
  have HPC := Lib.hid (sl4_lt hI.C)
  have HMN := Lib.hid fun (W : World) => mnew_ok nF W hf1 hf2
  have HX := Lib.hid fun (L mm fb : Nat) (W : World) (h : IsC W C ⟨pP, cP, pW, cW, pC, cC⟩) (hm : MemS W mm fb nF (fun _ => 0)) (h1 : L ≤ mm) (h2 : L ≤ fb) => newv2 L C pP pW pC cP cW cC mm fb nF W h hN hm hf1 hf2 hok hfr h1 h2
  have hck := fun (W : World) (h : IsC W C ⟨pP, cP, pW, cW, pC, cC⟩) => rcheckv C pP pW pC cP cW cC W h hN
  rw [ckE_ok hok] at hck
  have HFR := Lib.hid fun (W : World) (h : IsC W C ⟨pP, cP, pW, cW, pC, cC⟩) => rframesv C pP pW pC cP cW cC W h hN
  have HNX := Lib.hid fun (W : World) (h : Sl4 W pC C.nC C.cf C.ct C.cc C.cw) => rxnew_any C pP pW pC cP cW cC W h hok
  have HK := Lib.hid hck
  have HRW := Lib.hid hR
  unfold cfgV
  simp only
  rw [hl] at HLC
  have hn' : ¬ (100 : Int) < n := by omega
  have d1 : decide ((nF : Int) < frE C) = false := decide_eq_false (by omega)
  have hn16 := hok.1.N.2.2.2.2
  clear hI hl hN hck hR
  go_enter Try.func6, Try.ntmps6
  go_wp2_with fail
  refine (HLC.out _).mono ?_; rintro e w1 ⟨rfl, b1⟩
  have HB1 := Lib.hid (bstep (a := w) (by go_grown) b1)
  have HV := Lib.hid (show CV w1 w.heap.size C pP cP pW cW pC cC from ⟨bk_below (bk_new w _) b1, HI.out.below HB1.out⟩)
  have hw1 : w.heap.size < w1.heap.size := HV.out.cells.2.2.2
  clear b1
  go_wp2_with fail
  refine (HMN.out _).mono ?_; rintro e w2 ⟨mm, fb, rfl, hm, hm1, hm2, b2⟩
  have HB2 := Lib.hid (bstep HB1.out b2)
  have HV2 := Lib.hid (HV.out.below b2)
  have HM2 := Lib.hid hm
  clear b2 hm
  obtain ⟨y0, y1, y2, y3⟩ := HV2.out.cells
  go_wp2_with fail
  refine (HX.out w1.heap.size mm fb _ HV2.out.i HM2.out hm1 hm2).mono ?_; rintro e w3 ⟨K, rfl, hs3, hbf, b3⟩
  have HB3 := Lib.hid (bstep HB2.out b3)
  have HV3 := Lib.hid (HV2.out.below b3)
  have HS3 := Lib.hid hs3
  have HBF3 := Lib.hid hbf
  clear b3 y0 y1 y2 y3 hs3 hbf HM2 HV2
  obtain ⟨y0, y1, y2, y3⟩ := HV3.out.cells
  go_wp2_with fail
  refine (HK.out _ HV3.out.i).mono ?_; rintro e w4 ⟨rfl, b4⟩
  have HB4 := Lib.hid (bstep HB3.out b4)
  have HV4 := Lib.hid (HV3.out.below b4)
  have HS4 := Lib.hid (HS3.out.below b4)
  have hz4 := b4.size
  clear b4 y0 y1 y2 y3
  obtain ⟨y0, y1, y2, y3⟩ := HV4.out.cells
  go_wp2_with fail
  refine (HFR.out _ HV4.out.i).mono ?_; rintro e w5 ⟨rfl, b5⟩
  have HB5 := Lib.hid (bstep HB4.out b5)
  have HV5 := Lib.hid (HV4.out.below b5)
  have HS5 := Lib.hid (HS4.out.below b5)
  have HBF := Lib.hid (HBF3.out.mono (show w3.heap.size ≤ w5.heap.size by have := b5.size; omega))
  clear b5 y0 y1 y2 y3 HV3 HV4 HS3 HS4 HB3 HB4
  obtain ⟨y0, y1, y2, y3⟩ := HV5.out.cells
  go_wp2_with fail
  refine (HNX.out _ HV5.out.i.C).mono ?_; rintro e w6 ⟨rp, rcap, rfl, hsf, hra, hrn, hrc, b6⟩
  have HB6 := Lib.hid (bstep HB5.out b6)
  have HV6 := Lib.hid (HV5.out.below b6)
  have HS6 := Lib.hid (HS5.out.below b6)
  have hz6 := b6.size
  have HRX := Lib.hid (refx_new (pC := pC) (cC := cC) hsf hra hrn hrc hz6)
  clear b6 y0 y1 y2 y3 hsf hra hrn hrc
  go_wp2_with fail
  have hLg : w1.heap.size ≤ w6.heap.size := Nat.le_trans (Nat.le_of_lt HS5.out.size) hz6
  have HPL := Lib.hid (show ∀ b o, pC = some ⟨b, o, none⟩ → 0 < C.nC → b < w1.heap.size from fun b o e h => Nat.lt_trans (HPC.out b o e h) hw1)
  go_loopw [13] (fun iv W' => ∃ k : Nat, k ≤ n ∧ iv = .int .i64 k ∧ Below w.heap.size w W' ∧ CV W' w.heap.size C pP cP pW cW pC cC ∧ ∃ LL, PS w1.heap.size w6.heap.size w5.heap.size C K pC cC k LL W') (fun iv _ => n - (intOf iv).toNat)
  case atStart => exact ⟨0, by omega, rfl, HB6.out.alloc HB6.out.size _, HV6.out.below ((Below.refl _ _).alloc (Nat.le_refl _) _), fun _ => [], HS6.out.below ((Below.refl _ _).alloc (Nat.le_refl _) _), HRX.out, (HV6.out.below ((Below.refl _ _).alloc (Nat.le_refl _) _)).i.C⟩
  case round =>
    obtain ⟨k, hk, rfl, hb, hv, LL, hp⟩ := hrel
    have HBr := Lib.hid hb
    have HVr := Lib.hid hv
    have HPr := Lib.hid hp
    have hwz := hv.cells.2.2.2
    have hgz : w6.heap.size < wr.heap.size := by
      obtain ⟨_, _, _, _, _, _, _, _, hd, _⟩ := hp.r
      exact bk_lt hd
    clear hb hv hp
    by_cases hkn : k < n
    case neg =>
      obtain rfl : k = n := by omega
      have hnn : ¬ (k : Int) < k := by omega
      go_wp2_with fail
      refine (awake_any _).mono ?_; rintro e w9 ⟨rfl, b9⟩
      go_wp2
      go_ret
      exact ⟨rfl, bstep HBr.out b9⟩
    case pos =>
      have hkn' : (k : Int) < n := by omega
      have hk0 : (0 : Int) ≤ (k : Int) := by omega
      rcases HRW.out with h0 | ⟨rb, ro, rfl, hrw⟩
      · omega
      obtain ⟨⟨t0, t1, t2, t3⟩, u1, u2, _⟩ := hrw k hkn
      have c0 := keepc HBr.out t0
      have c1 := keepc HBr.out t1
      have c2 := keepc HBr.out t2
      have c3 := keepc HBr.out t3
      have HU1 := Lib.hid u1
      have HU2 := Lib.hid u2
      clear t0 t1 t2 t3 u1 u2 hrw
      generalize D k = d at *
      generalize P k = pt at *
      generalize H k = ch at *
      generalize A k = q at *
      generalize CP k = cp at *
      generalize Y k = xs at *
      by_cases h100 : 100 < xs.length
      · have h100' : (100 : Int) < xs.length := by omega
        go_wp2_with fail
        refine (awake_any _).mono ?_; rintro e w12 ⟨rfl, b12⟩
        go_wp2
        go_ret
        exact ⟨rfl, (HBr.out.alloc HBr.out.size _).trans (b12.mono (by rw [World.size_alloc]; have := HBr.out.size; omega))⟩
      have h100' : ¬ (100 : Int) < xs.length := by omega
      have HQ := Lib.hid (show ∀ b o, q = some ⟨b, o, none⟩ → 0 < xs.length → b < w1.heap.size from fun b o e h0 => Nat.lt_trans (sl_lt HU1.out b o e h0) hw1)
      have hob := bk_new wr (.cells #[.int .i64 d, .int .i64 pt, .int .i64 ch, .slice q xs.length cp] 43)
      have hal : Below wr.heap.size wr (wr.alloc (.cells #[.int .i64 d, .int .i64 pt, .int .i64 ch, .slice q xs.length cp] 43)) := (Below.refl _ _).alloc (Nat.le_refl _) _
      have HOB := Lib.hid hob
      have HAL := Lib.hid hal
      have HBa := Lib.hid (bstep HBr.out hal)
      have HVa := Lib.hid (HVr.out.below hal)
      have HFX := Lib.hid (show wr.heap.size ≠ w6.heap.size ∧ wr.heap.size ≠ K.fb ∧ ∀ i, i < C.nC → wr.heap.size ≠ K.R i from ⟨by omega, by have := HBF.out.fb; omega, fun i hi => by have := HBF.out.R i hi; omega⟩)
      obtain ⟨E1, hE1⟩ : ∃ E1 : Int, E1 = mayE C pt ch (d.tmod 2 == 1) := ⟨_, rfl⟩
      have HF := Lib.hid hE1
      have xF : (E1 == E1) = true := by simp
      clear hob hal hE1
      obtain ⟨z0, z1, z2, z3⟩ := HVa.out.cells
      have HCa := Lib.hid HVa.out.i.C
      by_cases hc1 : ch < 0
      · have HWV := Lib.hid (show wordsE C ch = (0 : Int) from if_pos (.inl hc1))
        have q1 : decide ((0 : Int) ≤ ch) = false := decide_eq_false (by omega)
        have xW : ((0 : Int) == 0) = true := by simp
        go_wp2_with fail
        refine wp_region_held_drew (S := (fun W' => W'.heap[wr.heap.size]? = some (.cells #[.int .i64 d, .int .i64 pt, .int .i64 ch, .slice q xs.length cp] 43 (0, 0)))) (by kernel_rfl) ?_ (fun hHeld => ?_)
        · exact HOB.out
        refine wpAnyH_take (i := 0) (v := ?_) rfl (by kernel_rfl) (by kernel_rfl) (by kernel_rfl) (fun _ _ _ h => h) (Or.inl ⟨by rfl, ?_⟩) (by assumption) ?_
        rotate_left
        · intro W hSw; (try dsimp only at hSw); have o0 := (bk_cell hSw 0).trans rfl; have o1 := (bk_cell hSw 1).trans rfl; have o2 := (bk_cell hSw 2).trans rfl; have o3 := (bk_cell hSw 3).trans rfl; (try simp only [List.getElem_toArray, List.getElem_cons_succ, List.getElem_cons_zero]); go_simp; try with_reducible rfl
        try simp only [Act.put, List.setIfInBounds_toArray, List.set_cons_zero, List.set_cons_succ, List.getElem_toArray, List.getElem_cons_succ, List.getElem_cons_zero]
        refine wpAnyH_take (i := 1) (v := ?_) rfl (by kernel_rfl) (by kernel_rfl) (by kernel_rfl) (fun _ _ _ h => h) (Or.inl ⟨by rfl, ?_⟩) (by assumption) ?_
        rotate_left
        · intro W hSw; (try dsimp only at hSw); have o0 := (bk_cell hSw 0).trans rfl; have o1 := (bk_cell hSw 1).trans rfl; have o2 := (bk_cell hSw 2).trans rfl; have o3 := (bk_cell hSw 3).trans rfl; (try simp only [List.getElem_toArray, List.getElem_cons_succ, List.getElem_cons_zero]); go_simp; try with_reducible rfl
        try simp only [Act.put, List.setIfInBounds_toArray, List.set_cons_zero, List.set_cons_succ, List.getElem_toArray, List.getElem_cons_succ, List.getElem_cons_zero]
        refine wpAnyH_ready (rs := [2]) (by kernel_rfl) (by simp) ?_
        refine AllReadyH.cons rfl (fun KK hK => ?_) AllReadyH.nil
        try simp only [List.getElem_toArray, List.getElem_cons_succ, List.getElem_cons_zero]
        go_simp
        go_at_call 24
        refine (play_any w1.heap.size w6.heap.size w5.heap.size C K pC cC k LL d pt ch q xs cp _ (HPr.out.below (bdrew HAL.out)) hok HBF.out hz6 hLg HPL.out (by omega) (HU1.out.below (bdrew HBa.out)) HU2.out HQ.out).mono ?_
        rintro e w7 ⟨rfl, ⟨LL', hp7⟩, hb7, hk7⟩
        have hob7 := hk7 _ _ (show ((wr.alloc (.cells #[.int .i64 d, .int .i64 pt, .int .i64 ch, .slice q xs.length cp] 43)).drew).heap[wr.heap.size]? = some (.cells #[.int .i64 d, .int .i64 pt, .int .i64 ch, .slice q xs.length cp] 43 (0, 0)) from HOB.out) HFX.out.1 HFX.out.2.1 HFX.out.2.2
        (try go_wp2_with fail)
        refine hK.out _ _ ?_ (fun hHeld => ?_)
        · exact hob7
        clear hK KK
        try simp only [Act.put, List.setIfInBounds_toArray, List.set_cons_zero, List.set_cons_succ, List.getElem_toArray, List.getElem_cons_succ, List.getElem_cons_zero]
        obtain ⟨_, vp, vb, vcap, vq, vcp, vout, vV, hd7, hy7⟩ := hp7.r
        have g0 : w7.cell? ⟨w6.heap.size, 0, none⟩ = some (.slice pC C.nC cC) := (bk_cell hd7 0).trans rfl
        have g1 : w7.cell? ⟨w6.heap.size, 1, none⟩ = some (.slice vp C.nC vcap) := (bk_cell hd7 1).trans rfl
        refine wpAnyH_take (i := 3) (v := ?_) rfl (by kernel_rfl) (by kernel_rfl) (by kernel_rfl) (fun _ _ _ h => h) (Or.inl ⟨by rfl, ?_⟩) (by assumption) ?_
        rotate_left
        · intro W hSw; (try dsimp only at hSw); have o0 := (bk_cell hSw 0).trans rfl; have o1 := (bk_cell hSw 1).trans rfl; have o2 := (bk_cell hSw 2).trans rfl; have o3 := (bk_cell hSw 3).trans rfl; (try simp only [List.getElem_toArray, List.getElem_cons_succ, List.getElem_cons_zero]); go_simp; try with_reducible rfl
        try simp only [Act.put, List.setIfInBounds_toArray, List.set_cons_zero, List.set_cons_succ, List.getElem_toArray, List.getElem_cons_succ, List.getElem_cons_zero]
        refine wpAnyH_take (i := 4) (v := ?_) rfl (by kernel_rfl) (by kernel_rfl) (by kernel_rfl) (fun _ _ _ h => h) (Or.inl ⟨by rfl, ?_⟩) (by assumption) ?_
        rotate_left
        · intro W hSw; (try dsimp only at hSw); have o0 := (bk_cell hSw 0).trans rfl; have o1 := (bk_cell hSw 1).trans rfl; have o2 := (bk_cell hSw 2).trans rfl; have o3 := (bk_cell hSw 3).trans rfl; (try simp only [List.getElem_toArray, List.getElem_cons_succ, List.getElem_cons_zero]); go_simp; try with_reducible rfl
        try simp only [Act.put, List.setIfInBounds_toArray, List.set_cons_zero, List.set_cons_succ, List.getElem_toArray, List.getElem_cons_succ, List.getElem_cons_zero]
        refine wpAnyH_take (i := 5) (v := ?_) rfl (by kernel_rfl) (by kernel_rfl) (by kernel_rfl) (fun _ _ _ h => h) (Or.inl ⟨by rfl, ?_⟩) (by assumption) ?_
        rotate_left
        · intro W hSw; (try dsimp only at hSw); have o0 := (bk_cell hSw 0).trans rfl; have o1 := (bk_cell hSw 1).trans rfl; have o2 := (bk_cell hSw 2).trans rfl; have o3 := (bk_cell hSw 3).trans rfl; (try simp only [List.getElem_toArray, List.getElem_cons_succ, List.getElem_cons_zero]); go_simp; try with_reducible rfl
        try simp only [Act.put, List.setIfInBounds_toArray, List.set_cons_zero, List.set_cons_succ, List.getElem_toArray, List.getElem_cons_succ, List.getElem_cons_zero]
        refine wpAnyH_take (i := 6) (v := ?_) rfl (by kernel_rfl) (by kernel_rfl) (by kernel_rfl) (fun _ _ _ h => h) (Or.inl ⟨by rfl, ?_⟩) (by assumption) ?_
        rotate_left
        · intro W hSw; (try dsimp only at hSw); have o0 := (bk_cell hSw 0).trans rfl; have o1 := (bk_cell hSw 1).trans rfl; have o2 := (bk_cell hSw 2).trans rfl; have o3 := (bk_cell hSw 3).trans rfl; (try simp only [List.getElem_toArray, List.getElem_cons_succ, List.getElem_cons_zero]); go_simp; try with_reducible rfl
        try simp only [Act.put, List.setIfInBounds_toArray, List.set_cons_zero, List.set_cons_succ, List.getElem_toArray, List.getElem_cons_succ, List.getElem_cons_zero]
        refine wpAnyH_take (i := 7) (v := ?_) rfl (by kernel_rfl) (by kernel_rfl) (by kernel_rfl) (fun _ _ _ h => h) (Or.inl ⟨by rfl, ?_⟩) (by assumption) ?_
        rotate_left
        · intro W hSw; (try dsimp only at hSw); have o0 := (bk_cell hSw 0).trans rfl; have o1 := (bk_cell hSw 1).trans rfl; have o2 := (bk_cell hSw 2).trans rfl; have o3 := (bk_cell hSw 3).trans rfl; (try simp only [List.getElem_toArray, List.getElem_cons_succ, List.getElem_cons_zero]); go_simp; try with_reducible rfl
        try simp only [Act.put, List.setIfInBounds_toArray, List.set_cons_zero, List.set_cons_succ, List.getElem_toArray, List.getElem_cons_succ, List.getElem_cons_zero]
        refine wpAnyH_take (i := 8) (v := ?_) rfl (by kernel_rfl) (by kernel_rfl) (by kernel_rfl) (fun _ _ _ h => h) (Or.inl ⟨by rfl, ?_⟩) (by assumption) ?_
        rotate_left
        · intro W hSw; (try dsimp only at hSw); have o0 := (bk_cell hSw 0).trans rfl; have o1 := (bk_cell hSw 1).trans rfl; have o2 := (bk_cell hSw 2).trans rfl; have o3 := (bk_cell hSw 3).trans rfl; (try simp only [List.getElem_toArray, List.getElem_cons_succ, List.getElem_cons_zero]); go_simp; try with_reducible rfl
        try simp only [Act.put, List.setIfInBounds_toArray, List.set_cons_zero, List.set_cons_succ, List.getElem_toArray, List.getElem_cons_succ, List.getElem_cons_zero]
        refine wpAnyH_take (i := 9) (v := ?_) rfl (by kernel_rfl) (by kernel_rfl) (by kernel_rfl) (fun _ _ _ h => h) (Or.inl ⟨by rfl, ?_⟩) (by assumption) ?_
        rotate_left
        · intro W hSw; (try dsimp only at hSw); have o0 := (bk_cell hSw 0).trans rfl; have o1 := (bk_cell hSw 1).trans rfl; have o2 := (bk_cell hSw 2).trans rfl; have o3 := (bk_cell hSw 3).trans rfl; (try simp only [List.getElem_toArray, List.getElem_cons_succ, List.getElem_cons_zero]); go_simp; try with_reducible rfl
        try simp only [Act.put, List.setIfInBounds_toArray, List.set_cons_zero, List.set_cons_succ, List.getElem_toArray, List.getElem_cons_succ, List.getElem_cons_zero]
        refine wpAnyH_take (i := 10) (v := ?_) rfl (by kernel_rfl) (by kernel_rfl) (by kernel_rfl) (fun _ _ _ h => h) (Or.inl ⟨by rfl, ?_⟩) (by assumption) ?_
        rotate_left
        · intro W hSw; (try dsimp only at hSw); have o0 := (bk_cell hSw 0).trans rfl; have o1 := (bk_cell hSw 1).trans rfl; have o2 := (bk_cell hSw 2).trans rfl; have o3 := (bk_cell hSw 3).trans rfl; (try simp only [List.getElem_toArray, List.getElem_cons_succ, List.getElem_cons_zero]); go_simp; try with_reducible rfl
        try simp only [Act.put, List.setIfInBounds_toArray, List.set_cons_zero, List.set_cons_succ, List.getElem_toArray, List.getElem_cons_succ, List.getElem_cons_zero]
        refine wpAnyH_take (i := 11) (v := ?_) rfl (by kernel_rfl) (by kernel_rfl) (by kernel_rfl) (fun _ _ _ h => h) (Or.inl ⟨by rfl, ?_⟩) (by assumption) ?_
        rotate_left
        · intro W hSw; (try dsimp only at hSw); have o0 := (bk_cell hSw 0).trans rfl; have o1 := (bk_cell hSw 1).trans rfl; have o2 := (bk_cell hSw 2).trans rfl; have o3 := (bk_cell hSw 3).trans rfl; (try simp only [List.getElem_toArray, List.getElem_cons_succ, List.getElem_cons_zero]); go_simp; try with_reducible rfl
        try simp only [Act.put, List.setIfInBounds_toArray, List.set_cons_zero, List.set_cons_succ, List.getElem_toArray, List.getElem_cons_succ, List.getElem_cons_zero]
        refine wpAnyH_take (i := 12) (v := ?_) rfl (by kernel_rfl) (by kernel_rfl) (by kernel_rfl) (fun _ _ _ h => h) (Or.inl ⟨by rfl, ?_⟩) (by assumption) ?_
        rotate_left
        · intro W hSw; (try dsimp only at hSw); have o0 := (bk_cell hSw 0).trans rfl; have o1 := (bk_cell hSw 1).trans rfl; have o2 := (bk_cell hSw 2).trans rfl; have o3 := (bk_cell hSw 3).trans rfl; (try simp only [List.getElem_toArray, List.getElem_cons_succ, List.getElem_cons_zero]); go_simp; try with_reducible rfl
        try simp only [Act.put, List.setIfInBounds_toArray, List.set_cons_zero, List.set_cons_succ, List.getElem_toArray, List.getElem_cons_succ, List.getElem_cons_zero]
        refine wpAnyH_take (i := 13) (v := ?_) rfl (by kernel_rfl) (by kernel_rfl) (by kernel_rfl) (fun _ _ _ h => h) (Or.inl ⟨by rfl, ?_⟩) (by assumption) ?_
        rotate_left
        · intro W hSw; (try dsimp only at hSw); have o0 := (bk_cell hSw 0).trans rfl; have o1 := (bk_cell hSw 1).trans rfl; have o2 := (bk_cell hSw 2).trans rfl; have o3 := (bk_cell hSw 3).trans rfl; (try simp only [List.getElem_toArray, List.getElem_cons_succ, List.getElem_cons_zero]); go_simp; try with_reducible rfl
        try simp only [Act.put, List.setIfInBounds_toArray, List.set_cons_zero, List.set_cons_succ, List.getElem_toArray, List.getElem_cons_succ, List.getElem_cons_zero]
        refine wpAnyH_take (i := 16) (v := ?_) rfl (by kernel_rfl) (by kernel_rfl) (by kernel_rfl) (fun _ _ _ h => h) (Or.inl ⟨by rfl, ?_⟩) (by assumption) ?_
        rotate_left
        · intro W hSw; (try dsimp only at hSw); have o0 := (bk_cell hSw 0).trans rfl; have o1 := (bk_cell hSw 1).trans rfl; have o2 := (bk_cell hSw 2).trans rfl; have o3 := (bk_cell hSw 3).trans rfl; (try simp only [List.getElem_toArray, List.getElem_cons_succ, List.getElem_cons_zero]); go_simp; try with_reducible rfl
        try simp only [Act.put, List.setIfInBounds_toArray, List.set_cons_zero, List.set_cons_succ, List.getElem_toArray, List.getElem_cons_succ, List.getElem_cons_zero]
        refine wpAnyH_take (i := 17) (v := ?_) rfl (by kernel_rfl) (by kernel_rfl) (by kernel_rfl) (fun _ _ _ h => h) (Or.inl ⟨by rfl, ?_⟩) (by assumption) ?_
        rotate_left
        · intro W hSw; (try dsimp only at hSw); have o0 := (bk_cell hSw 0).trans rfl; have o1 := (bk_cell hSw 1).trans rfl; have o2 := (bk_cell hSw 2).trans rfl; have o3 := (bk_cell hSw 3).trans rfl; (try simp only [List.getElem_toArray, List.getElem_cons_succ, List.getElem_cons_zero]); go_simp; try with_reducible rfl
        try simp only [Act.put, List.setIfInBounds_toArray, List.set_cons_zero, List.set_cons_succ, List.getElem_toArray, List.getElem_cons_succ, List.getElem_cons_zero]
        refine wpAnyH_take (i := 18) (v := ?_) rfl (by kernel_rfl) (by kernel_rfl) (by kernel_rfl) (fun _ _ _ h => h) (Or.inl ⟨by rfl, ?_⟩) (by assumption) ?_
        rotate_left
        · intro W hSw; (try dsimp only at hSw); have o0 := (bk_cell hSw 0).trans rfl; have o1 := (bk_cell hSw 1).trans rfl; have o2 := (bk_cell hSw 2).trans rfl; have o3 := (bk_cell hSw 3).trans rfl; (try simp only [List.getElem_toArray, List.getElem_cons_succ, List.getElem_cons_zero]); go_simp; try with_reducible rfl
        try simp only [Act.put, List.setIfInBounds_toArray, List.set_cons_zero, List.set_cons_succ, List.getElem_toArray, List.getElem_cons_succ, List.getElem_cons_zero]
        refine wpAnyH_take (i := 19) (v := ?_) rfl (by kernel_rfl) (by kernel_rfl) (by kernel_rfl) (fun _ _ _ h => h) (Or.inl ⟨by rfl, ?_⟩) (by assumption) ?_
        rotate_left
        · intro W hSw; (try dsimp only at hSw); have o0 := (bk_cell hSw 0).trans rfl; have o1 := (bk_cell hSw 1).trans rfl; have o2 := (bk_cell hSw 2).trans rfl; have o3 := (bk_cell hSw 3).trans rfl; (try simp only [List.getElem_toArray, List.getElem_cons_succ, List.getElem_cons_zero]); go_simp; try with_reducible rfl
        try simp only [Act.put, List.setIfInBounds_toArray, List.set_cons_zero, List.set_cons_succ, List.getElem_toArray, List.getElem_cons_succ, List.getElem_cons_zero]
        refine wpAnyH_take (i := 20) (v := ?_) rfl (by kernel_rfl) (by kernel_rfl) (by kernel_rfl) (fun _ _ _ h => h) (Or.inl ⟨by rfl, ?_⟩) (by assumption) ?_
        rotate_left
        · intro W hSw; (try dsimp only at hSw); have o0 := (bk_cell hSw 0).trans rfl; have o1 := (bk_cell hSw 1).trans rfl; have o2 := (bk_cell hSw 2).trans rfl; have o3 := (bk_cell hSw 3).trans rfl; (try simp only [List.getElem_toArray, List.getElem_cons_succ, List.getElem_cons_zero]); go_simp; try with_reducible rfl
        try simp only [Act.put, List.setIfInBounds_toArray, List.set_cons_zero, List.set_cons_succ, List.getElem_toArray, List.getElem_cons_succ, List.getElem_cons_zero]
        refine wpAnyH_take (i := 21) (v := ?_) rfl (by kernel_rfl) (by kernel_rfl) (by kernel_rfl) (fun _ _ _ h => h) (Or.inl ⟨by rfl, ?_⟩) (by assumption) ?_
        rotate_left
        · intro W hSw; (try dsimp only at hSw); have o0 := (bk_cell hSw 0).trans rfl; have o1 := (bk_cell hSw 1).trans rfl; have o2 := (bk_cell hSw 2).trans rfl; have o3 := (bk_cell hSw 3).trans rfl; (try simp only [List.getElem_toArray, List.getElem_cons_succ, List.getElem_cons_zero]); go_simp; try with_reducible rfl
        try simp only [Act.put, List.setIfInBounds_toArray, List.set_cons_zero, List.set_cons_succ, List.getElem_toArray, List.getElem_cons_succ, List.getElem_cons_zero]
        refine wpAnyH_take (i := 22) (v := ?_) rfl (by kernel_rfl) (by kernel_rfl) (by kernel_rfl) (fun _ _ _ h => h) (Or.inl ⟨by rfl, ?_⟩) (by assumption) ?_
        rotate_left
        · intro W hSw; (try dsimp only at hSw); have o0 := (bk_cell hSw 0).trans rfl; have o1 := (bk_cell hSw 1).trans rfl; have o2 := (bk_cell hSw 2).trans rfl; have o3 := (bk_cell hSw 3).trans rfl; (try simp only [List.getElem_toArray, List.getElem_cons_succ, List.getElem_cons_zero]); go_simp; try with_reducible rfl
        try simp only [Act.put, List.setIfInBounds_toArray, List.set_cons_zero, List.set_cons_succ, List.getElem_toArray, List.getElem_cons_succ, List.getElem_cons_zero]
        refine wpAnyH_take (i := 23) (v := ?_) rfl (by kernel_rfl) (by kernel_rfl) (by kernel_rfl) (fun _ _ _ h => h) (Or.inl ⟨by rfl, ?_⟩) (by assumption) ?_
        rotate_left
        · intro W hSw; (try dsimp only at hSw); have o0 := (bk_cell hSw 0).trans rfl; have o1 := (bk_cell hSw 1).trans rfl; have o2 := (bk_cell hSw 2).trans rfl; have o3 := (bk_cell hSw 3).trans rfl; (try simp only [List.getElem_toArray, List.getElem_cons_succ, List.getElem_cons_zero]); go_simp; try with_reducible rfl
        try simp only [Act.put, List.setIfInBounds_toArray, List.set_cons_zero, List.set_cons_succ, List.getElem_toArray, List.getElem_cons_succ, List.getElem_cons_zero]
        refine wpAnyH_ready (rs := [14, 15]) (by kernel_rfl) (by simp) ?_
        refine AllReadyH.cons rfl (fun KK hK => ?_) (AllReadyH.cons rfl (fun KK hK => ?_) AllReadyH.nil)
        · skip
          try simp only [List.getElem_toArray, List.getElem_cons_succ, List.getElem_cons_zero]
          go_simp
          go_at_call 25
          refine (show Calls Try.prog 25 #[.pointer (some ⟨K.X, 0, none⟩), .int .i64 pt, .int .i64 ch, .bool (d.tmod 2 == 1)] w7 fun e W' => e = .returned (.int .i64 E1) ∧ Below w7.heap.size w7 W' from by rw [HF.out]; exact sys_may pt ch _ hp7.s).mono ?_
          rintro e w8 ⟨rfl, hb8⟩
          (try go_wp2_with fail)
          refine hK.out _ _ ?_ (fun hHeld => ?_)
          · exact bk_below hob7 hb8
          clear hK KK
          try simp only [Act.put, List.setIfInBounds_toArray, List.set_cons_zero, List.set_cons_succ, List.getElem_toArray, List.getElem_cons_succ, List.getElem_cons_zero]
          have g0' := keepc hb8 g0
          have g1' := keepc hb8 g1
          refine wpAnyH_ready (rs := [15]) (by kernel_rfl) (by simp) ?_
          refine AllReadyH.cons rfl (fun KK hK => ?_) AllReadyH.nil
          try simp only [List.getElem_toArray, List.getElem_cons_succ, List.getElem_cons_zero]
          go_simp
          refine hK.out _ _ ?_ (fun hHeld => ?_)
          · exact bk_below hob7 hb8
          clear hK KK
          try simp only [Act.put, List.setIfInBounds_toArray, List.set_cons_zero, List.set_cons_succ, List.getElem_toArray, List.getElem_cons_succ, List.getElem_cons_zero]
          have hp8 := hp7.below hb8
          refine wpAnyH_ready (rs := [24]) (by kernel_rfl) (by simp) ?_
          refine AllReadyH.cons rfl (fun KK hK => ?_) AllReadyH.nil
          try simp only [List.getElem_toArray, List.getElem_cons_succ, List.getElem_cons_zero]
          go_simp
          go_at_call 26
          refine (show Calls Try.prog 26 #[.agg #[.slice pC C.nC cC, .slice vp C.nC vcap], .int .i64 pt, .int .i64 ch, .bool (d.tmod 2 == 1)] w8 fun e W' => e = .returned (.int .i64 E1) ∧ Below w8.heap.size w8 W' from by rw [HF.out]; exact rmay_any C pC vp cC C.nC vcap pt ch _ w8 hp8.c hn16).mono ?_
          rintro e w9 ⟨rfl, hb9⟩
          (try go_wp2_with fail)
          refine hK.out _ _ ?_ (fun hHeld => ?_)
          · exact bk_below hob7 (bstep hb8 hb9)
          clear hK KK
          try simp only [Act.put, List.setIfInBounds_toArray, List.set_cons_zero, List.set_cons_succ, List.getElem_toArray, List.getElem_cons_succ, List.getElem_cons_zero]
          refine wpAnyH_take (i := 25) (v := ?_) rfl (by kernel_rfl) (by kernel_rfl) (by kernel_rfl) (fun _ _ _ h => h) (Or.inl ⟨by rfl, ?_⟩) (by assumption) ?_
          rotate_left
          · intro W hSw; (try dsimp only at hSw); have o0 := (bk_cell hSw 0).trans rfl; have o1 := (bk_cell hSw 1).trans rfl; have o2 := (bk_cell hSw 2).trans rfl; have o3 := (bk_cell hSw 3).trans rfl; (try simp only [List.getElem_toArray, List.getElem_cons_succ, List.getElem_cons_zero]); go_simp; try with_reducible rfl
          try simp only [Act.put, List.setIfInBounds_toArray, List.set_cons_zero, List.set_cons_succ, List.getElem_toArray, List.getElem_cons_succ, List.getElem_cons_zero]
          refine wpAnyH_take (i := 26) (v := ?_) rfl (by kernel_rfl) (by kernel_rfl) (by kernel_rfl) (fun _ _ _ h => h) (Or.inl ⟨by rfl, ?_⟩) (by assumption) ?_
          rotate_left
          · intro W hSw; (try dsimp only at hSw); have o0 := (bk_cell hSw 0).trans rfl; have o1 := (bk_cell hSw 1).trans rfl; have o2 := (bk_cell hSw 2).trans rfl; have o3 := (bk_cell hSw 3).trans rfl; (try simp only [List.getElem_toArray, List.getElem_cons_succ, List.getElem_cons_zero]); go_simp; try with_reducible rfl
          try simp only [Act.put, List.setIfInBounds_toArray, List.set_cons_zero, List.set_cons_succ, List.getElem_toArray, List.getElem_cons_succ, List.getElem_cons_zero]
          refine wpAnyH_take (i := 27) (v := ?_) rfl (by kernel_rfl) (by kernel_rfl) (by kernel_rfl) (fun _ _ _ h => h) (Or.inl ⟨by rfl, ?_⟩) (by assumption) ?_
          rotate_left
          · intro W hSw; (try dsimp only at hSw); have o0 := (bk_cell hSw 0).trans rfl; have o1 := (bk_cell hSw 1).trans rfl; have o2 := (bk_cell hSw 2).trans rfl; have o3 := (bk_cell hSw 3).trans rfl; (try simp only [List.getElem_toArray, List.getElem_cons_succ, List.getElem_cons_zero]); go_simp; try with_reducible rfl
          try simp only [Act.put, List.setIfInBounds_toArray, List.set_cons_zero, List.set_cons_succ, List.getElem_toArray, List.getElem_cons_succ, List.getElem_cons_zero]
          refine wpAnyH_take (i := 28) (v := ?_) rfl (by kernel_rfl) (by kernel_rfl) (by kernel_rfl) (fun _ _ _ h => h) (Or.inl ⟨by rfl, ?_⟩) (by assumption) ?_
          rotate_left
          · intro W hSw; (try dsimp only at hSw); have o0 := (bk_cell hSw 0).trans rfl; have o1 := (bk_cell hSw 1).trans rfl; have o2 := (bk_cell hSw 2).trans rfl; have o3 := (bk_cell hSw 3).trans rfl; (try simp only [List.getElem_toArray, List.getElem_cons_succ, List.getElem_cons_zero]); go_simp; try with_reducible rfl
          try simp only [Act.put, List.setIfInBounds_toArray, List.set_cons_zero, List.set_cons_succ, List.getElem_toArray, List.getElem_cons_succ, List.getElem_cons_zero]
          refine wpAnyH_take (i := 29) (v := ?_) rfl (by kernel_rfl) (by kernel_rfl) (by kernel_rfl) (fun _ _ _ h => h) (Or.inl ⟨by rfl, ?_⟩) (by assumption) ?_
          rotate_left
          · intro W hSw; (try dsimp only at hSw); have o0 := (bk_cell hSw 0).trans rfl; have o1 := (bk_cell hSw 1).trans rfl; have o2 := (bk_cell hSw 2).trans rfl; have o3 := (bk_cell hSw 3).trans rfl; (try simp only [List.getElem_toArray, List.getElem_cons_succ, List.getElem_cons_zero]); go_simp; try with_reducible rfl
          try simp only [Act.put, List.setIfInBounds_toArray, List.set_cons_zero, List.set_cons_succ, List.getElem_toArray, List.getElem_cons_succ, List.getElem_cons_zero]
          refine wpAnyH_take (i := 30) (v := ?_) rfl (by kernel_rfl) (by kernel_rfl) (by kernel_rfl) (fun _ _ _ h => h) (Or.inl ⟨by rfl, ?_⟩) (by assumption) ?_
          rotate_left
          · intro W hSw; (try dsimp only at hSw); have o0 := (bk_cell hSw 0).trans rfl; have o1 := (bk_cell hSw 1).trans rfl; have o2 := (bk_cell hSw 2).trans rfl; have o3 := (bk_cell hSw 3).trans rfl; (try simp only [List.getElem_toArray, List.getElem_cons_succ, List.getElem_cons_zero]); go_simp; try with_reducible rfl
          try simp only [Act.put, List.setIfInBounds_toArray, List.set_cons_zero, List.set_cons_succ, List.getElem_toArray, List.getElem_cons_succ, List.getElem_cons_zero]
          refine wpAnyH_take (i := 33) (v := ?_) rfl (by kernel_rfl) (by kernel_rfl) (by kernel_rfl) (fun _ _ _ h => h) (Or.inl ⟨by rfl, ?_⟩) (by assumption) ?_
          rotate_left
          · intro W hSw; (try dsimp only at hSw); have o0 := (bk_cell hSw 0).trans rfl; have o1 := (bk_cell hSw 1).trans rfl; have o2 := (bk_cell hSw 2).trans rfl; have o3 := (bk_cell hSw 3).trans rfl; (try simp only [List.getElem_toArray, List.getElem_cons_succ, List.getElem_cons_zero]); go_simp; try with_reducible rfl
          try simp only [Act.put, List.setIfInBounds_toArray, List.set_cons_zero, List.set_cons_succ, List.getElem_toArray, List.getElem_cons_succ, List.getElem_cons_zero]
          refine wpAnyH_take (i := 34) (v := ?_) rfl (by kernel_rfl) (by kernel_rfl) (by kernel_rfl) (fun _ _ _ h => h) (Or.inl ⟨by rfl, ?_⟩) (by assumption) ?_
          rotate_left
          · intro W hSw; (try dsimp only at hSw); have o0 := (bk_cell hSw 0).trans rfl; have o1 := (bk_cell hSw 1).trans rfl; have o2 := (bk_cell hSw 2).trans rfl; have o3 := (bk_cell hSw 3).trans rfl; (try simp only [List.getElem_toArray, List.getElem_cons_succ, List.getElem_cons_zero]); go_simp; try with_reducible rfl
          try simp only [Act.put, List.setIfInBounds_toArray, List.set_cons_zero, List.set_cons_succ, List.getElem_toArray, List.getElem_cons_succ, List.getElem_cons_zero]
          have hp9 := hp8.below hb9
          have hb79 := bstep hb8 hb9
          have e0 := keepc hb79 g0
          have e1 := keepc hb79 g1
          have hy9 := hy7.below hb79
          refine wpAnyH_ready (rs := [31, 32]) (by kernel_rfl) (by simp) ?_
          refine AllReadyH.cons rfl (fun KK hK => ?_) (AllReadyH.cons rfl (fun KK hK => ?_) AllReadyH.nil)
          · skip
            try simp only [List.getElem_toArray, List.getElem_cons_succ, List.getElem_cons_zero]
            go_simp
            go_at_call 20
            refine (sys_room ch hp9.s).mono ?_
            rintro e w10 ⟨rfl, hb10⟩
            (try go_wp2_with fail)
            refine hK.out _ _ ?_ (fun hHeld => ?_)
            · exact bk_below hob7 (bstep hb79 hb10)
            clear hK KK
            try simp only [Act.put, List.setIfInBounds_toArray, List.set_cons_zero, List.set_cons_succ, List.getElem_toArray, List.getElem_cons_succ, List.getElem_cons_zero]
            have e0' := keepc hb10 e0
            have e1' := keepc hb10 e1
            refine wpAnyH_ready (rs := [32]) (by kernel_rfl) (by simp) ?_
            refine AllReadyH.cons rfl (fun KK hK => ?_) AllReadyH.nil
            try simp only [List.getElem_toArray, List.getElem_cons_succ, List.getElem_cons_zero]
            go_simp
            refine hK.out _ _ ?_ (fun hHeld => ?_)
            · exact bk_below hob7 (bstep hb79 hb10)
            clear hK KK
            try simp only [Act.put, List.setIfInBounds_toArray, List.set_cons_zero, List.set_cons_succ, List.getElem_toArray, List.getElem_cons_succ, List.getElem_cons_zero]
            have hp10 := hp9.below hb10
            refine wpAnyH_ready (rs := [35]) (by kernel_rfl) (by simp) ?_
            refine AllReadyH.cons rfl (fun KK hK => ?_) AllReadyH.nil
            try simp only [List.getElem_toArray, List.getElem_cons_succ, List.getElem_cons_zero]
            go_simp
            go_at_call 27
            refine (rroom_any pC cC ch (hy9.below hb10) hp10.c hok).mono ?_
            rintro e w11 ⟨rfl, hb11⟩
            (try go_wp2_with fail)
            refine hK.out _ _ ?_ (fun hHeld => ?_)
            · exact bk_below hob7 (bstep (bstep hb79 hb10) hb11)
            clear hK KK
            try simp only [Act.put, List.setIfInBounds_toArray, List.set_cons_zero, List.set_cons_succ, List.getElem_toArray, List.getElem_cons_succ, List.getElem_cons_zero]
            have xR : (roomE C LL' ch == roomE C LL' ch) = true := by simp
            refine wpAnyH_take (i := 36) (v := ?_) rfl (by kernel_rfl) (by kernel_rfl) (by kernel_rfl) (fun _ _ _ h => h) (Or.inl ⟨by rfl, ?_⟩) (by assumption) ?_
            rotate_left
            · intro W hSw; (try dsimp only at hSw); have o0 := (bk_cell hSw 0).trans rfl; have o1 := (bk_cell hSw 1).trans rfl; have o2 := (bk_cell hSw 2).trans rfl; have o3 := (bk_cell hSw 3).trans rfl; (try simp only [List.getElem_toArray, List.getElem_cons_succ, List.getElem_cons_zero]); go_simp; try with_reducible rfl
            try simp only [Act.put, List.setIfInBounds_toArray, List.set_cons_zero, List.set_cons_succ, List.getElem_toArray, List.getElem_cons_succ, List.getElem_cons_zero]
            refine wpAnyH_take (i := 37) (v := ?_) rfl (by kernel_rfl) (by kernel_rfl) (by kernel_rfl) (fun _ _ _ h => h) (Or.inl ⟨by rfl, ?_⟩) (by assumption) ?_
            rotate_left
            · intro W hSw; (try dsimp only at hSw); have o0 := (bk_cell hSw 0).trans rfl; have o1 := (bk_cell hSw 1).trans rfl; have o2 := (bk_cell hSw 2).trans rfl; have o3 := (bk_cell hSw 3).trans rfl; (try simp only [List.getElem_toArray, List.getElem_cons_succ, List.getElem_cons_zero]); go_simp; try with_reducible rfl
            try simp only [Act.put, List.setIfInBounds_toArray, List.set_cons_zero, List.set_cons_succ, List.getElem_toArray, List.getElem_cons_succ, List.getElem_cons_zero]
            refine wpAnyH_take (i := 38) (v := ?_) rfl (by kernel_rfl) (by kernel_rfl) (by kernel_rfl) (fun _ _ _ h => h) (Or.inl ⟨by rfl, ?_⟩) (by assumption) ?_
            rotate_left
            · intro W hSw; (try dsimp only at hSw); have o0 := (bk_cell hSw 0).trans rfl; have o1 := (bk_cell hSw 1).trans rfl; have o2 := (bk_cell hSw 2).trans rfl; have o3 := (bk_cell hSw 3).trans rfl; (try simp only [List.getElem_toArray, List.getElem_cons_succ, List.getElem_cons_zero]); go_simp; try with_reducible rfl
            try simp only [Act.put, List.setIfInBounds_toArray, List.set_cons_zero, List.set_cons_succ, List.getElem_toArray, List.getElem_cons_succ, List.getElem_cons_zero]
            refine wpAnyH_take (i := 39) (v := ?_) rfl (by kernel_rfl) (by kernel_rfl) (by kernel_rfl) (fun _ _ _ h => h) (Or.inl ⟨by rfl, ?_⟩) (by assumption) ?_
            rotate_left
            · intro W hSw; (try dsimp only at hSw); have o0 := (bk_cell hSw 0).trans rfl; have o1 := (bk_cell hSw 1).trans rfl; have o2 := (bk_cell hSw 2).trans rfl; have o3 := (bk_cell hSw 3).trans rfl; (try simp only [List.getElem_toArray, List.getElem_cons_succ, List.getElem_cons_zero]); go_simp; try with_reducible rfl
            try simp only [Act.put, List.setIfInBounds_toArray, List.set_cons_zero, List.set_cons_succ, List.getElem_toArray, List.getElem_cons_succ, List.getElem_cons_zero]
            refine wpAnyH_take (i := 40) (v := ?_) rfl (by kernel_rfl) (by kernel_rfl) (by kernel_rfl) (fun _ _ _ h => h) (Or.inl ⟨by rfl, ?_⟩) (by assumption) ?_
            rotate_left
            · intro W hSw; (try dsimp only at hSw); have o0 := (bk_cell hSw 0).trans rfl; have o1 := (bk_cell hSw 1).trans rfl; have o2 := (bk_cell hSw 2).trans rfl; have o3 := (bk_cell hSw 3).trans rfl; (try simp only [List.getElem_toArray, List.getElem_cons_succ, List.getElem_cons_zero]); go_simp; try with_reducible rfl
            try simp only [Act.put, List.setIfInBounds_toArray, List.set_cons_zero, List.set_cons_succ, List.getElem_toArray, List.getElem_cons_succ, List.getElem_cons_zero]
            refine wpAnyH_take (i := 41) (v := ?_) rfl (by kernel_rfl) (by kernel_rfl) (by kernel_rfl) (fun _ _ _ h => h) (Or.inl ⟨by rfl, ?_⟩) (by assumption) ?_
            rotate_left
            · intro W hSw; (try dsimp only at hSw); have o0 := (bk_cell hSw 0).trans rfl; have o1 := (bk_cell hSw 1).trans rfl; have o2 := (bk_cell hSw 2).trans rfl; have o3 := (bk_cell hSw 3).trans rfl; (try simp only [List.getElem_toArray, List.getElem_cons_succ, List.getElem_cons_zero]); go_simp; try with_reducible rfl
            try simp only [Act.put, List.setIfInBounds_toArray, List.set_cons_zero, List.set_cons_succ, List.getElem_toArray, List.getElem_cons_succ, List.getElem_cons_zero]
            refine wpAnyH_take (i := 43) (v := ?_) rfl (by kernel_rfl) (by kernel_rfl) (by kernel_rfl) (fun _ _ _ h => h) (Or.inl ⟨by rfl, ?_⟩) (by assumption) ?_
            rotate_left
            · intro W hSw; (try dsimp only at hSw); have o0 := (bk_cell hSw 0).trans rfl; have o1 := (bk_cell hSw 1).trans rfl; have o2 := (bk_cell hSw 2).trans rfl; have o3 := (bk_cell hSw 3).trans rfl; (try simp only [List.getElem_toArray, List.getElem_cons_succ, List.getElem_cons_zero]); go_simp; try with_reducible rfl
            try simp only [Act.put, List.setIfInBounds_toArray, List.set_cons_zero, List.set_cons_succ, List.getElem_toArray, List.getElem_cons_succ, List.getElem_cons_zero]
            have hp11 := hp10.below hb11
            refine wpAnyH_ready (rs := [42]) (by kernel_rfl) (by simp) ?_
            refine AllReadyH.cons rfl (fun KK hK => ?_) AllReadyH.nil
            try simp only [List.getElem_toArray, List.getElem_cons_succ, List.getElem_cons_zero]
            go_simp
            go_at_call 28
            refine (show Calls Try.prog 28 #[.pointer (some ⟨K.X, 0, none⟩), .int .i64 ch] w11 fun e W' => e = .returned (.int .i64 0) ∧ Below w11.heap.size w11 W' from by rw [← HWV.out]; exact sys_words ch hp11.s).mono ?_
            rintro e w13 ⟨rfl, hb13⟩
            (try go_wp2_with fail)
            refine hK.out _ _ ?_ (fun hHeld => ?_)
            · exact bk_below hob7 (bstep (bstep (bstep hb79 hb10) hb11) hb13)
            clear hK KK
            try simp only [Act.put, List.setIfInBounds_toArray, List.set_cons_zero, List.set_cons_succ, List.getElem_toArray, List.getElem_cons_succ, List.getElem_cons_zero]
            refine wpAnyH_take (i := 44) (v := ?_) rfl (by kernel_rfl) (by kernel_rfl) (by kernel_rfl) (fun _ _ _ h => h) (Or.inl ⟨by rfl, ?_⟩) (by assumption) ?_
            rotate_left
            · intro W hSw; (try dsimp only at hSw); (try simp only [List.getElem_toArray, List.getElem_cons_succ, List.getElem_cons_zero]); go_simp; try with_reducible rfl
            try simp only [Act.put, List.setIfInBounds_toArray, List.set_cons_zero, List.set_cons_succ, List.getElem_toArray, List.getElem_cons_succ, List.getElem_cons_zero]
            refine wpAnyH_take (i := 45) (v := ?_) rfl (by kernel_rfl) (by kernel_rfl) (by kernel_rfl) (fun _ _ _ h => h) (Or.inl ⟨by rfl, ?_⟩) (by assumption) ?_
            rotate_left
            · intro W hSw; (try dsimp only at hSw); (try simp only [List.getElem_toArray, List.getElem_cons_succ, List.getElem_cons_zero]); go_simp; try with_reducible rfl
            try simp only [Act.put, List.setIfInBounds_toArray, List.set_cons_zero, List.set_cons_succ, List.getElem_toArray, List.getElem_cons_succ, List.getElem_cons_zero]
            refine wpAnyH_done (by kernel_rfl) ?_ _
            have hb7e := bstep (bstep (bstep hb79 hb10) hb11) hb13
            have hBB : Below w1.heap.size wr w13 := ((((bdrew HAL.out).mono (by omega)).trans hb7)).trans (hb7e.mono (Nat.le_of_lt hp7.s.size))
            have HBZ := Lib.hid (HBr.out.trans (hBB.mono (Nat.le_of_lt hw1)))
            have HVZ := Lib.hid (HVr.out.keep HI.out hBB hw1 HBZ.out)
            have HPZ := Lib.hid (hp7.below hb7e)
            clear hb7e hBB hp7 hp8 hp9 hp10 hp11 hb7 hk7 hob7 hd7 hy7 hy9 hb8 hb9 hb79 hb10 hb11 hb13 hHeld
            go_wp2_with fail
            exact ⟨⟨k + 1, by omega, by go_num, HBZ.out, HVZ.out, LL', HPZ.out⟩, by simp [intOf]; omega⟩
          · skip
            try simp only [List.getElem_toArray, List.getElem_cons_succ, List.getElem_cons_zero]
            go_simp
            refine hK.out _ _ ?_ (fun hHeld => ?_)
            · exact bk_below hob7 hb79
            clear hK KK
            try simp only [Act.put, List.setIfInBounds_toArray, List.set_cons_zero, List.set_cons_succ, List.getElem_toArray, List.getElem_cons_succ, List.getElem_cons_zero]
            refine wpAnyH_ready (rs := [31]) (by kernel_rfl) (by simp) ?_
            refine AllReadyH.cons rfl (fun KK hK => ?_) AllReadyH.nil
            try simp only [List.getElem_toArray, List.getElem_cons_succ, List.getElem_cons_zero]
            go_simp
            go_at_call 20
            refine (sys_room ch hp9.s).mono ?_
            rintro e w10 ⟨rfl, hb10⟩
            (try go_wp2_with fail)
            refine hK.out _ _ ?_ (fun hHeld => ?_)
            · exact bk_below hob7 (bstep hb79 hb10)
            clear hK KK
            try simp only [Act.put, List.setIfInBounds_toArray, List.set_cons_zero, List.set_cons_succ, List.getElem_toArray, List.getElem_cons_succ, List.getElem_cons_zero]
            have hp10 := hp9.below hb10
            refine wpAnyH_ready (rs := [35]) (by kernel_rfl) (by simp) ?_
            refine AllReadyH.cons rfl (fun KK hK => ?_) AllReadyH.nil
            try simp only [List.getElem_toArray, List.getElem_cons_succ, List.getElem_cons_zero]
            go_simp
            go_at_call 27
            refine (rroom_any pC cC ch (hy9.below hb10) hp10.c hok).mono ?_
            rintro e w11 ⟨rfl, hb11⟩
            (try go_wp2_with fail)
            refine hK.out _ _ ?_ (fun hHeld => ?_)
            · exact bk_below hob7 (bstep (bstep hb79 hb10) hb11)
            clear hK KK
            try simp only [Act.put, List.setIfInBounds_toArray, List.set_cons_zero, List.set_cons_succ, List.getElem_toArray, List.getElem_cons_succ, List.getElem_cons_zero]
            have xR : (roomE C LL' ch == roomE C LL' ch) = true := by simp
            refine wpAnyH_take (i := 36) (v := ?_) rfl (by kernel_rfl) (by kernel_rfl) (by kernel_rfl) (fun _ _ _ h => h) (Or.inl ⟨by rfl, ?_⟩) (by assumption) ?_
            rotate_left
            · intro W hSw; (try dsimp only at hSw); have o0 := (bk_cell hSw 0).trans rfl; have o1 := (bk_cell hSw 1).trans rfl; have o2 := (bk_cell hSw 2).trans rfl; have o3 := (bk_cell hSw 3).trans rfl; (try simp only [List.getElem_toArray, List.getElem_cons_succ, List.getElem_cons_zero]); go_simp; try with_reducible rfl
            try simp only [Act.put, List.setIfInBounds_toArray, List.set_cons_zero, List.set_cons_succ, List.getElem_toArray, List.getElem_cons_succ, List.getElem_cons_zero]
            refine wpAnyH_take (i := 37) (v := ?_) rfl (by kernel_rfl) (by kernel_rfl) (by kernel_rfl) (fun _ _ _ h => h) (Or.inl ⟨by rfl, ?_⟩) (by assumption) ?_
            rotate_left
            · intro W hSw; (try dsimp only at hSw); have o0 := (bk_cell hSw 0).trans rfl; have o1 := (bk_cell hSw 1).trans rfl; have o2 := (bk_cell hSw 2).trans rfl; have o3 := (bk_cell hSw 3).trans rfl; (try simp only [List.getElem_toArray, List.getElem_cons_succ, List.getElem_cons_zero]); go_simp; try with_reducible rfl
            try simp only [Act.put, List.setIfInBounds_toArray, List.set_cons_zero, List.set_cons_succ, List.getElem_toArray, List.getElem_cons_succ, List.getElem_cons_zero]
            refine wpAnyH_take (i := 38) (v := ?_) rfl (by kernel_rfl) (by kernel_rfl) (by kernel_rfl) (fun _ _ _ h => h) (Or.inl ⟨by rfl, ?_⟩) (by assumption) ?_
            rotate_left
            · intro W hSw; (try dsimp only at hSw); have o0 := (bk_cell hSw 0).trans rfl; have o1 := (bk_cell hSw 1).trans rfl; have o2 := (bk_cell hSw 2).trans rfl; have o3 := (bk_cell hSw 3).trans rfl; (try simp only [List.getElem_toArray, List.getElem_cons_succ, List.getElem_cons_zero]); go_simp; try with_reducible rfl
            try simp only [Act.put, List.setIfInBounds_toArray, List.set_cons_zero, List.set_cons_succ, List.getElem_toArray, List.getElem_cons_succ, List.getElem_cons_zero]
            refine wpAnyH_take (i := 39) (v := ?_) rfl (by kernel_rfl) (by kernel_rfl) (by kernel_rfl) (fun _ _ _ h => h) (Or.inl ⟨by rfl, ?_⟩) (by assumption) ?_
            rotate_left
            · intro W hSw; (try dsimp only at hSw); have o0 := (bk_cell hSw 0).trans rfl; have o1 := (bk_cell hSw 1).trans rfl; have o2 := (bk_cell hSw 2).trans rfl; have o3 := (bk_cell hSw 3).trans rfl; (try simp only [List.getElem_toArray, List.getElem_cons_succ, List.getElem_cons_zero]); go_simp; try with_reducible rfl
            try simp only [Act.put, List.setIfInBounds_toArray, List.set_cons_zero, List.set_cons_succ, List.getElem_toArray, List.getElem_cons_succ, List.getElem_cons_zero]
            refine wpAnyH_take (i := 40) (v := ?_) rfl (by kernel_rfl) (by kernel_rfl) (by kernel_rfl) (fun _ _ _ h => h) (Or.inl ⟨by rfl, ?_⟩) (by assumption) ?_
            rotate_left
            · intro W hSw; (try dsimp only at hSw); have o0 := (bk_cell hSw 0).trans rfl; have o1 := (bk_cell hSw 1).trans rfl; have o2 := (bk_cell hSw 2).trans rfl; have o3 := (bk_cell hSw 3).trans rfl; (try simp only [List.getElem_toArray, List.getElem_cons_succ, List.getElem_cons_zero]); go_simp; try with_reducible rfl
            try simp only [Act.put, List.setIfInBounds_toArray, List.set_cons_zero, List.set_cons_succ, List.getElem_toArray, List.getElem_cons_succ, List.getElem_cons_zero]
            refine wpAnyH_take (i := 41) (v := ?_) rfl (by kernel_rfl) (by kernel_rfl) (by kernel_rfl) (fun _ _ _ h => h) (Or.inl ⟨by rfl, ?_⟩) (by assumption) ?_
            rotate_left
            · intro W hSw; (try dsimp only at hSw); have o0 := (bk_cell hSw 0).trans rfl; have o1 := (bk_cell hSw 1).trans rfl; have o2 := (bk_cell hSw 2).trans rfl; have o3 := (bk_cell hSw 3).trans rfl; (try simp only [List.getElem_toArray, List.getElem_cons_succ, List.getElem_cons_zero]); go_simp; try with_reducible rfl
            try simp only [Act.put, List.setIfInBounds_toArray, List.set_cons_zero, List.set_cons_succ, List.getElem_toArray, List.getElem_cons_succ, List.getElem_cons_zero]
            refine wpAnyH_take (i := 43) (v := ?_) rfl (by kernel_rfl) (by kernel_rfl) (by kernel_rfl) (fun _ _ _ h => h) (Or.inl ⟨by rfl, ?_⟩) (by assumption) ?_
            rotate_left
            · intro W hSw; (try dsimp only at hSw); have o0 := (bk_cell hSw 0).trans rfl; have o1 := (bk_cell hSw 1).trans rfl; have o2 := (bk_cell hSw 2).trans rfl; have o3 := (bk_cell hSw 3).trans rfl; (try simp only [List.getElem_toArray, List.getElem_cons_succ, List.getElem_cons_zero]); go_simp; try with_reducible rfl
            try simp only [Act.put, List.setIfInBounds_toArray, List.set_cons_zero, List.set_cons_succ, List.getElem_toArray, List.getElem_cons_succ, List.getElem_cons_zero]
            have hp11 := hp10.below hb11
            refine wpAnyH_ready (rs := [42]) (by kernel_rfl) (by simp) ?_
            refine AllReadyH.cons rfl (fun KK hK => ?_) AllReadyH.nil
            try simp only [List.getElem_toArray, List.getElem_cons_succ, List.getElem_cons_zero]
            go_simp
            go_at_call 28
            refine (show Calls Try.prog 28 #[.pointer (some ⟨K.X, 0, none⟩), .int .i64 ch] w11 fun e W' => e = .returned (.int .i64 0) ∧ Below w11.heap.size w11 W' from by rw [← HWV.out]; exact sys_words ch hp11.s).mono ?_
            rintro e w13 ⟨rfl, hb13⟩
            (try go_wp2_with fail)
            refine hK.out _ _ ?_ (fun hHeld => ?_)
            · exact bk_below hob7 (bstep (bstep (bstep hb79 hb10) hb11) hb13)
            clear hK KK
            try simp only [Act.put, List.setIfInBounds_toArray, List.set_cons_zero, List.set_cons_succ, List.getElem_toArray, List.getElem_cons_succ, List.getElem_cons_zero]
            refine wpAnyH_take (i := 44) (v := ?_) rfl (by kernel_rfl) (by kernel_rfl) (by kernel_rfl) (fun _ _ _ h => h) (Or.inl ⟨by rfl, ?_⟩) (by assumption) ?_
            rotate_left
            · intro W hSw; (try dsimp only at hSw); (try simp only [List.getElem_toArray, List.getElem_cons_succ, List.getElem_cons_zero]); go_simp; try with_reducible rfl
            try simp only [Act.put, List.setIfInBounds_toArray, List.set_cons_zero, List.set_cons_succ, List.getElem_toArray, List.getElem_cons_succ, List.getElem_cons_zero]
            refine wpAnyH_take (i := 45) (v := ?_) rfl (by kernel_rfl) (by kernel_rfl) (by kernel_rfl) (fun _ _ _ h => h) (Or.inl ⟨by rfl, ?_⟩) (by assumption) ?_
            rotate_left
            · intro W hSw; (try dsimp only at hSw); (try simp only [List.getElem_toArray, List.getElem_cons_succ, List.getElem_cons_zero]); go_simp; try with_reducible rfl
            try simp only [Act.put, List.setIfInBounds_toArray, List.set_cons_zero, List.set_cons_succ, List.getElem_toArray, List.getElem_cons_succ, List.getElem_cons_zero]
            refine wpAnyH_done (by kernel_rfl) ?_ _
            have hb7e := bstep (bstep (bstep hb79 hb10) hb11) hb13
            have hBB : Below w1.heap.size wr w13 := ((((bdrew HAL.out).mono (by omega)).trans hb7)).trans (hb7e.mono (Nat.le_of_lt hp7.s.size))
            have HBZ := Lib.hid (HBr.out.trans (hBB.mono (Nat.le_of_lt hw1)))
            have HVZ := Lib.hid (HVr.out.keep HI.out hBB hw1 HBZ.out)
            have HPZ := Lib.hid (hp7.below hb7e)
            clear hb7e hBB hp7 hp8 hp9 hp10 hp11 hb7 hk7 hob7 hd7 hy7 hy9 hb8 hb9 hb79 hb10 hb11 hb13 hHeld
            go_wp2_with fail
            exact ⟨⟨k + 1, by omega, by go_num, HBZ.out, HVZ.out, LL', HPZ.out⟩, by simp [intOf]; omega⟩
        · skip
          try simp only [List.getElem_toArray, List.getElem_cons_succ, List.getElem_cons_zero]
          go_simp
          refine hK.out _ _ ?_ (fun hHeld => ?_)
          · exact hob7
          clear hK KK
          try simp only [Act.put, List.setIfInBounds_toArray, List.set_cons_zero, List.set_cons_succ, List.getElem_toArray, List.getElem_cons_succ, List.getElem_cons_zero]
          refine wpAnyH_ready (rs := [14]) (by kernel_rfl) (by simp) ?_
          refine AllReadyH.cons rfl (fun KK hK => ?_) AllReadyH.nil
          try simp only [List.getElem_toArray, List.getElem_cons_succ, List.getElem_cons_zero]
          go_simp
          go_at_call 25
          refine (show Calls Try.prog 25 #[.pointer (some ⟨K.X, 0, none⟩), .int .i64 pt, .int .i64 ch, .bool (d.tmod 2 == 1)] w7 fun e W' => e = .returned (.int .i64 E1) ∧ Below w7.heap.size w7 W' from by rw [HF.out]; exact sys_may pt ch _ hp7.s).mono ?_
          rintro e w8 ⟨rfl, hb8⟩
          (try go_wp2_with fail)
          refine hK.out _ _ ?_ (fun hHeld => ?_)
          · exact bk_below hob7 hb8
          clear hK KK
          try simp only [Act.put, List.setIfInBounds_toArray, List.set_cons_zero, List.set_cons_succ, List.getElem_toArray, List.getElem_cons_succ, List.getElem_cons_zero]
          have g0' := keepc hb8 g0
          have g1' := keepc hb8 g1
          have hp8 := hp7.below hb8
          refine wpAnyH_ready (rs := [24]) (by kernel_rfl) (by simp) ?_
          refine AllReadyH.cons rfl (fun KK hK => ?_) AllReadyH.nil
          try simp only [List.getElem_toArray, List.getElem_cons_succ, List.getElem_cons_zero]
          go_simp
          go_at_call 26
          refine (show Calls Try.prog 26 #[.agg #[.slice pC C.nC cC, .slice vp C.nC vcap], .int .i64 pt, .int .i64 ch, .bool (d.tmod 2 == 1)] w8 fun e W' => e = .returned (.int .i64 E1) ∧ Below w8.heap.size w8 W' from by rw [HF.out]; exact rmay_any C pC vp cC C.nC vcap pt ch _ w8 hp8.c hn16).mono ?_
          rintro e w9 ⟨rfl, hb9⟩
          (try go_wp2_with fail)
          refine hK.out _ _ ?_ (fun hHeld => ?_)
          · exact bk_below hob7 (bstep hb8 hb9)
          clear hK KK
          try simp only [Act.put, List.setIfInBounds_toArray, List.set_cons_zero, List.set_cons_succ, List.getElem_toArray, List.getElem_cons_succ, List.getElem_cons_zero]
          refine wpAnyH_take (i := 25) (v := ?_) rfl (by kernel_rfl) (by kernel_rfl) (by kernel_rfl) (fun _ _ _ h => h) (Or.inl ⟨by rfl, ?_⟩) (by assumption) ?_
          rotate_left
          · intro W hSw; (try dsimp only at hSw); have o0 := (bk_cell hSw 0).trans rfl; have o1 := (bk_cell hSw 1).trans rfl; have o2 := (bk_cell hSw 2).trans rfl; have o3 := (bk_cell hSw 3).trans rfl; (try simp only [List.getElem_toArray, List.getElem_cons_succ, List.getElem_cons_zero]); go_simp; try with_reducible rfl
          try simp only [Act.put, List.setIfInBounds_toArray, List.set_cons_zero, List.set_cons_succ, List.getElem_toArray, List.getElem_cons_succ, List.getElem_cons_zero]
          refine wpAnyH_take (i := 26) (v := ?_) rfl (by kernel_rfl) (by kernel_rfl) (by kernel_rfl) (fun _ _ _ h => h) (Or.inl ⟨by rfl, ?_⟩) (by assumption) ?_
          rotate_left
          · intro W hSw; (try dsimp only at hSw); have o0 := (bk_cell hSw 0).trans rfl; have o1 := (bk_cell hSw 1).trans rfl; have o2 := (bk_cell hSw 2).trans rfl; have o3 := (bk_cell hSw 3).trans rfl; (try simp only [List.getElem_toArray, List.getElem_cons_succ, List.getElem_cons_zero]); go_simp; try with_reducible rfl
          try simp only [Act.put, List.setIfInBounds_toArray, List.set_cons_zero, List.set_cons_succ, List.getElem_toArray, List.getElem_cons_succ, List.getElem_cons_zero]
          refine wpAnyH_take (i := 27) (v := ?_) rfl (by kernel_rfl) (by kernel_rfl) (by kernel_rfl) (fun _ _ _ h => h) (Or.inl ⟨by rfl, ?_⟩) (by assumption) ?_
          rotate_left
          · intro W hSw; (try dsimp only at hSw); have o0 := (bk_cell hSw 0).trans rfl; have o1 := (bk_cell hSw 1).trans rfl; have o2 := (bk_cell hSw 2).trans rfl; have o3 := (bk_cell hSw 3).trans rfl; (try simp only [List.getElem_toArray, List.getElem_cons_succ, List.getElem_cons_zero]); go_simp; try with_reducible rfl
          try simp only [Act.put, List.setIfInBounds_toArray, List.set_cons_zero, List.set_cons_succ, List.getElem_toArray, List.getElem_cons_succ, List.getElem_cons_zero]
          refine wpAnyH_take (i := 28) (v := ?_) rfl (by kernel_rfl) (by kernel_rfl) (by kernel_rfl) (fun _ _ _ h => h) (Or.inl ⟨by rfl, ?_⟩) (by assumption) ?_
          rotate_left
          · intro W hSw; (try dsimp only at hSw); have o0 := (bk_cell hSw 0).trans rfl; have o1 := (bk_cell hSw 1).trans rfl; have o2 := (bk_cell hSw 2).trans rfl; have o3 := (bk_cell hSw 3).trans rfl; (try simp only [List.getElem_toArray, List.getElem_cons_succ, List.getElem_cons_zero]); go_simp; try with_reducible rfl
          try simp only [Act.put, List.setIfInBounds_toArray, List.set_cons_zero, List.set_cons_succ, List.getElem_toArray, List.getElem_cons_succ, List.getElem_cons_zero]
          refine wpAnyH_take (i := 29) (v := ?_) rfl (by kernel_rfl) (by kernel_rfl) (by kernel_rfl) (fun _ _ _ h => h) (Or.inl ⟨by rfl, ?_⟩) (by assumption) ?_
          rotate_left
          · intro W hSw; (try dsimp only at hSw); have o0 := (bk_cell hSw 0).trans rfl; have o1 := (bk_cell hSw 1).trans rfl; have o2 := (bk_cell hSw 2).trans rfl; have o3 := (bk_cell hSw 3).trans rfl; (try simp only [List.getElem_toArray, List.getElem_cons_succ, List.getElem_cons_zero]); go_simp; try with_reducible rfl
          try simp only [Act.put, List.setIfInBounds_toArray, List.set_cons_zero, List.set_cons_succ, List.getElem_toArray, List.getElem_cons_succ, List.getElem_cons_zero]
          refine wpAnyH_take (i := 30) (v := ?_) rfl (by kernel_rfl) (by kernel_rfl) (by kernel_rfl) (fun _ _ _ h => h) (Or.inl ⟨by rfl, ?_⟩) (by assumption) ?_
          rotate_left
          · intro W hSw; (try dsimp only at hSw); have o0 := (bk_cell hSw 0).trans rfl; have o1 := (bk_cell hSw 1).trans rfl; have o2 := (bk_cell hSw 2).trans rfl; have o3 := (bk_cell hSw 3).trans rfl; (try simp only [List.getElem_toArray, List.getElem_cons_succ, List.getElem_cons_zero]); go_simp; try with_reducible rfl
          try simp only [Act.put, List.setIfInBounds_toArray, List.set_cons_zero, List.set_cons_succ, List.getElem_toArray, List.getElem_cons_succ, List.getElem_cons_zero]
          refine wpAnyH_take (i := 33) (v := ?_) rfl (by kernel_rfl) (by kernel_rfl) (by kernel_rfl) (fun _ _ _ h => h) (Or.inl ⟨by rfl, ?_⟩) (by assumption) ?_
          rotate_left
          · intro W hSw; (try dsimp only at hSw); have o0 := (bk_cell hSw 0).trans rfl; have o1 := (bk_cell hSw 1).trans rfl; have o2 := (bk_cell hSw 2).trans rfl; have o3 := (bk_cell hSw 3).trans rfl; (try simp only [List.getElem_toArray, List.getElem_cons_succ, List.getElem_cons_zero]); go_simp; try with_reducible rfl
          try simp only [Act.put, List.setIfInBounds_toArray, List.set_cons_zero, List.set_cons_succ, List.getElem_toArray, List.getElem_cons_succ, List.getElem_cons_zero]
          refine wpAnyH_take (i := 34) (v := ?_) rfl (by kernel_rfl) (by kernel_rfl) (by kernel_rfl) (fun _ _ _ h => h) (Or.inl ⟨by rfl, ?_⟩) (by assumption) ?_
          rotate_left
          · intro W hSw; (try dsimp only at hSw); have o0 := (bk_cell hSw 0).trans rfl; have o1 := (bk_cell hSw 1).trans rfl; have o2 := (bk_cell hSw 2).trans rfl; have o3 := (bk_cell hSw 3).trans rfl; (try simp only [List.getElem_toArray, List.getElem_cons_succ, List.getElem_cons_zero]); go_simp; try with_reducible rfl
          try simp only [Act.put, List.setIfInBounds_toArray, List.set_cons_zero, List.set_cons_succ, List.getElem_toArray, List.getElem_cons_succ, List.getElem_cons_zero]
          have hp9 := hp8.below hb9
          have hb79 := bstep hb8 hb9
          have e0 := keepc hb79 g0
          have e1 := keepc hb79 g1
          have hy9 := hy7.below hb79
          refine wpAnyH_ready (rs := [31, 32]) (by kernel_rfl) (by simp) ?_
          refine AllReadyH.cons rfl (fun KK hK => ?_) (AllReadyH.cons rfl (fun KK hK => ?_) AllReadyH.nil)
          · skip
            try simp only [List.getElem_toArray, List.getElem_cons_succ, List.getElem_cons_zero]
            go_simp
            go_at_call 20
            refine (sys_room ch hp9.s).mono ?_
            rintro e w10 ⟨rfl, hb10⟩
            (try go_wp2_with fail)
            refine hK.out _ _ ?_ (fun hHeld => ?_)
            · exact bk_below hob7 (bstep hb79 hb10)
            clear hK KK
            try simp only [Act.put, List.setIfInBounds_toArray, List.set_cons_zero, List.set_cons_succ, List.getElem_toArray, List.getElem_cons_succ, List.getElem_cons_zero]
            have e0' := keepc hb10 e0
            have e1' := keepc hb10 e1
            refine wpAnyH_ready (rs := [32]) (by kernel_rfl) (by simp) ?_
            refine AllReadyH.cons rfl (fun KK hK => ?_) AllReadyH.nil
            try simp only [List.getElem_toArray, List.getElem_cons_succ, List.getElem_cons_zero]
            go_simp
            refine hK.out _ _ ?_ (fun hHeld => ?_)
            · exact bk_below hob7 (bstep hb79 hb10)
            clear hK KK
            try simp only [Act.put, List.setIfInBounds_toArray, List.set_cons_zero, List.set_cons_succ, List.getElem_toArray, List.getElem_cons_succ, List.getElem_cons_zero]
            have hp10 := hp9.below hb10
            refine wpAnyH_ready (rs := [35]) (by kernel_rfl) (by simp) ?_
            refine AllReadyH.cons rfl (fun KK hK => ?_) AllReadyH.nil
            try simp only [List.getElem_toArray, List.getElem_cons_succ, List.getElem_cons_zero]
            go_simp
            go_at_call 27
            refine (rroom_any pC cC ch (hy9.below hb10) hp10.c hok).mono ?_
            rintro e w11 ⟨rfl, hb11⟩
            (try go_wp2_with fail)
            refine hK.out _ _ ?_ (fun hHeld => ?_)
            · exact bk_below hob7 (bstep (bstep hb79 hb10) hb11)
            clear hK KK
            try simp only [Act.put, List.setIfInBounds_toArray, List.set_cons_zero, List.set_cons_succ, List.getElem_toArray, List.getElem_cons_succ, List.getElem_cons_zero]
            have xR : (roomE C LL' ch == roomE C LL' ch) = true := by simp
            refine wpAnyH_take (i := 36) (v := ?_) rfl (by kernel_rfl) (by kernel_rfl) (by kernel_rfl) (fun _ _ _ h => h) (Or.inl ⟨by rfl, ?_⟩) (by assumption) ?_
            rotate_left
            · intro W hSw; (try dsimp only at hSw); have o0 := (bk_cell hSw 0).trans rfl; have o1 := (bk_cell hSw 1).trans rfl; have o2 := (bk_cell hSw 2).trans rfl; have o3 := (bk_cell hSw 3).trans rfl; (try simp only [List.getElem_toArray, List.getElem_cons_succ, List.getElem_cons_zero]); go_simp; try with_reducible rfl
            try simp only [Act.put, List.setIfInBounds_toArray, List.set_cons_zero, List.set_cons_succ, List.getElem_toArray, List.getElem_cons_succ, List.getElem_cons_zero]
            refine wpAnyH_take (i := 37) (v := ?_) rfl (by kernel_rfl) (by kernel_rfl) (by kernel_rfl) (fun _ _ _ h => h) (Or.inl ⟨by rfl, ?_⟩) (by assumption) ?_
            rotate_left
            · intro W hSw; (try dsimp only at hSw); have o0 := (bk_cell hSw 0).trans rfl; have o1 := (bk_cell hSw 1).trans rfl; have o2 := (bk_cell hSw 2).trans rfl; have o3 := (bk_cell hSw 3).trans rfl; (try simp only [List.getElem_toArray, List.getElem_cons_succ, List.getElem_cons_zero]); go_simp; try with_reducible rfl
            try simp only [Act.put, List.setIfInBounds_toArray, List.set_cons_zero, List.set_cons_succ, List.getElem_toArray, List.getElem_cons_succ, List.getElem_cons_zero]
            refine wpAnyH_take (i := 38) (v := ?_) rfl (by kernel_rfl) (by kernel_rfl) (by kernel_rfl) (fun _ _ _ h => h) (Or.inl ⟨by rfl, ?_⟩) (by assumption) ?_
            rotate_left
            · intro W hSw; (try dsimp only at hSw); have o0 := (bk_cell hSw 0).trans rfl; have o1 := (bk_cell hSw 1).trans rfl; have o2 := (bk_cell hSw 2).trans rfl; have o3 := (bk_cell hSw 3).trans rfl; (try simp only [List.getElem_toArray, List.getElem_cons_succ, List.getElem_cons_zero]); go_simp; try with_reducible rfl
            try simp only [Act.put, List.setIfInBounds_toArray, List.set_cons_zero, List.set_cons_succ, List.getElem_toArray, List.getElem_cons_succ, List.getElem_cons_zero]
            refine wpAnyH_take (i := 39) (v := ?_) rfl (by kernel_rfl) (by kernel_rfl) (by kernel_rfl) (fun _ _ _ h => h) (Or.inl ⟨by rfl, ?_⟩) (by assumption) ?_
            rotate_left
            · intro W hSw; (try dsimp only at hSw); have o0 := (bk_cell hSw 0).trans rfl; have o1 := (bk_cell hSw 1).trans rfl; have o2 := (bk_cell hSw 2).trans rfl; have o3 := (bk_cell hSw 3).trans rfl; (try simp only [List.getElem_toArray, List.getElem_cons_succ, List.getElem_cons_zero]); go_simp; try with_reducible rfl
            try simp only [Act.put, List.setIfInBounds_toArray, List.set_cons_zero, List.set_cons_succ, List.getElem_toArray, List.getElem_cons_succ, List.getElem_cons_zero]
            refine wpAnyH_take (i := 40) (v := ?_) rfl (by kernel_rfl) (by kernel_rfl) (by kernel_rfl) (fun _ _ _ h => h) (Or.inl ⟨by rfl, ?_⟩) (by assumption) ?_
            rotate_left
            · intro W hSw; (try dsimp only at hSw); have o0 := (bk_cell hSw 0).trans rfl; have o1 := (bk_cell hSw 1).trans rfl; have o2 := (bk_cell hSw 2).trans rfl; have o3 := (bk_cell hSw 3).trans rfl; (try simp only [List.getElem_toArray, List.getElem_cons_succ, List.getElem_cons_zero]); go_simp; try with_reducible rfl
            try simp only [Act.put, List.setIfInBounds_toArray, List.set_cons_zero, List.set_cons_succ, List.getElem_toArray, List.getElem_cons_succ, List.getElem_cons_zero]
            refine wpAnyH_take (i := 41) (v := ?_) rfl (by kernel_rfl) (by kernel_rfl) (by kernel_rfl) (fun _ _ _ h => h) (Or.inl ⟨by rfl, ?_⟩) (by assumption) ?_
            rotate_left
            · intro W hSw; (try dsimp only at hSw); have o0 := (bk_cell hSw 0).trans rfl; have o1 := (bk_cell hSw 1).trans rfl; have o2 := (bk_cell hSw 2).trans rfl; have o3 := (bk_cell hSw 3).trans rfl; (try simp only [List.getElem_toArray, List.getElem_cons_succ, List.getElem_cons_zero]); go_simp; try with_reducible rfl
            try simp only [Act.put, List.setIfInBounds_toArray, List.set_cons_zero, List.set_cons_succ, List.getElem_toArray, List.getElem_cons_succ, List.getElem_cons_zero]
            refine wpAnyH_take (i := 43) (v := ?_) rfl (by kernel_rfl) (by kernel_rfl) (by kernel_rfl) (fun _ _ _ h => h) (Or.inl ⟨by rfl, ?_⟩) (by assumption) ?_
            rotate_left
            · intro W hSw; (try dsimp only at hSw); have o0 := (bk_cell hSw 0).trans rfl; have o1 := (bk_cell hSw 1).trans rfl; have o2 := (bk_cell hSw 2).trans rfl; have o3 := (bk_cell hSw 3).trans rfl; (try simp only [List.getElem_toArray, List.getElem_cons_succ, List.getElem_cons_zero]); go_simp; try with_reducible rfl
            try simp only [Act.put, List.setIfInBounds_toArray, List.set_cons_zero, List.set_cons_succ, List.getElem_toArray, List.getElem_cons_succ, List.getElem_cons_zero]
            have hp11 := hp10.below hb11
            refine wpAnyH_ready (rs := [42]) (by kernel_rfl) (by simp) ?_
            refine AllReadyH.cons rfl (fun KK hK => ?_) AllReadyH.nil
            try simp only [List.getElem_toArray, List.getElem_cons_succ, List.getElem_cons_zero]
            go_simp
            go_at_call 28
            refine (show Calls Try.prog 28 #[.pointer (some ⟨K.X, 0, none⟩), .int .i64 ch] w11 fun e W' => e = .returned (.int .i64 0) ∧ Below w11.heap.size w11 W' from by rw [← HWV.out]; exact sys_words ch hp11.s).mono ?_
            rintro e w13 ⟨rfl, hb13⟩
            (try go_wp2_with fail)
            refine hK.out _ _ ?_ (fun hHeld => ?_)
            · exact bk_below hob7 (bstep (bstep (bstep hb79 hb10) hb11) hb13)
            clear hK KK
            try simp only [Act.put, List.setIfInBounds_toArray, List.set_cons_zero, List.set_cons_succ, List.getElem_toArray, List.getElem_cons_succ, List.getElem_cons_zero]
            refine wpAnyH_take (i := 44) (v := ?_) rfl (by kernel_rfl) (by kernel_rfl) (by kernel_rfl) (fun _ _ _ h => h) (Or.inl ⟨by rfl, ?_⟩) (by assumption) ?_
            rotate_left
            · intro W hSw; (try dsimp only at hSw); (try simp only [List.getElem_toArray, List.getElem_cons_succ, List.getElem_cons_zero]); go_simp; try with_reducible rfl
            try simp only [Act.put, List.setIfInBounds_toArray, List.set_cons_zero, List.set_cons_succ, List.getElem_toArray, List.getElem_cons_succ, List.getElem_cons_zero]
            refine wpAnyH_take (i := 45) (v := ?_) rfl (by kernel_rfl) (by kernel_rfl) (by kernel_rfl) (fun _ _ _ h => h) (Or.inl ⟨by rfl, ?_⟩) (by assumption) ?_
            rotate_left
            · intro W hSw; (try dsimp only at hSw); (try simp only [List.getElem_toArray, List.getElem_cons_succ, List.getElem_cons_zero]); go_simp; try with_reducible rfl
            try simp only [Act.put, List.setIfInBounds_toArray, List.set_cons_zero, List.set_cons_succ, List.getElem_toArray, List.getElem_cons_succ, List.getElem_cons_zero]
            refine wpAnyH_done (by kernel_rfl) ?_ _
            have hb7e := bstep (bstep (bstep hb79 hb10) hb11) hb13
            have hBB : Below w1.heap.size wr w13 := ((((bdrew HAL.out).mono (by omega)).trans hb7)).trans (hb7e.mono (Nat.le_of_lt hp7.s.size))
            have HBZ := Lib.hid (HBr.out.trans (hBB.mono (Nat.le_of_lt hw1)))
            have HVZ := Lib.hid (HVr.out.keep HI.out hBB hw1 HBZ.out)
            have HPZ := Lib.hid (hp7.below hb7e)
            clear hb7e hBB hp7 hp8 hp9 hp10 hp11 hb7 hk7 hob7 hd7 hy7 hy9 hb8 hb9 hb79 hb10 hb11 hb13 hHeld
            go_wp2_with fail
            exact ⟨⟨k + 1, by omega, by go_num, HBZ.out, HVZ.out, LL', HPZ.out⟩, by simp [intOf]; omega⟩
          · skip
            try simp only [List.getElem_toArray, List.getElem_cons_succ, List.getElem_cons_zero]
            go_simp
            refine hK.out _ _ ?_ (fun hHeld => ?_)
            · exact bk_below hob7 hb79
            clear hK KK
            try simp only [Act.put, List.setIfInBounds_toArray, List.set_cons_zero, List.set_cons_succ, List.getElem_toArray, List.getElem_cons_succ, List.getElem_cons_zero]
            refine wpAnyH_ready (rs := [31]) (by kernel_rfl) (by simp) ?_
            refine AllReadyH.cons rfl (fun KK hK => ?_) AllReadyH.nil
            try simp only [List.getElem_toArray, List.getElem_cons_succ, List.getElem_cons_zero]
            go_simp
            go_at_call 20
            refine (sys_room ch hp9.s).mono ?_
            rintro e w10 ⟨rfl, hb10⟩
            (try go_wp2_with fail)
            refine hK.out _ _ ?_ (fun hHeld => ?_)
            · exact bk_below hob7 (bstep hb79 hb10)
            clear hK KK
            try simp only [Act.put, List.setIfInBounds_toArray, List.set_cons_zero, List.set_cons_succ, List.getElem_toArray, List.getElem_cons_succ, List.getElem_cons_zero]
            have hp10 := hp9.below hb10
            refine wpAnyH_ready (rs := [35]) (by kernel_rfl) (by simp) ?_
            refine AllReadyH.cons rfl (fun KK hK => ?_) AllReadyH.nil
            try simp only [List.getElem_toArray, List.getElem_cons_succ, List.getElem_cons_zero]
            go_simp
            go_at_call 27
            refine (rroom_any pC cC ch (hy9.below hb10) hp10.c hok).mono ?_
            rintro e w11 ⟨rfl, hb11⟩
            (try go_wp2_with fail)
            refine hK.out _ _ ?_ (fun hHeld => ?_)
            · exact bk_below hob7 (bstep (bstep hb79 hb10) hb11)
            clear hK KK
            try simp only [Act.put, List.setIfInBounds_toArray, List.set_cons_zero, List.set_cons_succ, List.getElem_toArray, List.getElem_cons_succ, List.getElem_cons_zero]
            have xR : (roomE C LL' ch == roomE C LL' ch) = true := by simp
            refine wpAnyH_take (i := 36) (v := ?_) rfl (by kernel_rfl) (by kernel_rfl) (by kernel_rfl) (fun _ _ _ h => h) (Or.inl ⟨by rfl, ?_⟩) (by assumption) ?_
            rotate_left
            · intro W hSw; (try dsimp only at hSw); have o0 := (bk_cell hSw 0).trans rfl; have o1 := (bk_cell hSw 1).trans rfl; have o2 := (bk_cell hSw 2).trans rfl; have o3 := (bk_cell hSw 3).trans rfl; (try simp only [List.getElem_toArray, List.getElem_cons_succ, List.getElem_cons_zero]); go_simp; try with_reducible rfl
            try simp only [Act.put, List.setIfInBounds_toArray, List.set_cons_zero, List.set_cons_succ, List.getElem_toArray, List.getElem_cons_succ, List.getElem_cons_zero]
            refine wpAnyH_take (i := 37) (v := ?_) rfl (by kernel_rfl) (by kernel_rfl) (by kernel_rfl) (fun _ _ _ h => h) (Or.inl ⟨by rfl, ?_⟩) (by assumption) ?_
            rotate_left
            · intro W hSw; (try dsimp only at hSw); have o0 := (bk_cell hSw 0).trans rfl; have o1 := (bk_cell hSw 1).trans rfl; have o2 := (bk_cell hSw 2).trans rfl; have o3 := (bk_cell hSw 3).trans rfl; (try simp only [List.getElem_toArray, List.getElem_cons_succ, List.getElem_cons_zero]); go_simp; try with_reducible rfl
            try simp only [Act.put, List.setIfInBounds_toArray, List.set_cons_zero, List.set_cons_succ, List.getElem_toArray, List.getElem_cons_succ, List.getElem_cons_zero]
            refine wpAnyH_take (i := 38) (v := ?_) rfl (by kernel_rfl) (by kernel_rfl) (by kernel_rfl) (fun _ _ _ h => h) (Or.inl ⟨by rfl, ?_⟩) (by assumption) ?_
            rotate_left
            · intro W hSw; (try dsimp only at hSw); have o0 := (bk_cell hSw 0).trans rfl; have o1 := (bk_cell hSw 1).trans rfl; have o2 := (bk_cell hSw 2).trans rfl; have o3 := (bk_cell hSw 3).trans rfl; (try simp only [List.getElem_toArray, List.getElem_cons_succ, List.getElem_cons_zero]); go_simp; try with_reducible rfl
            try simp only [Act.put, List.setIfInBounds_toArray, List.set_cons_zero, List.set_cons_succ, List.getElem_toArray, List.getElem_cons_succ, List.getElem_cons_zero]
            refine wpAnyH_take (i := 39) (v := ?_) rfl (by kernel_rfl) (by kernel_rfl) (by kernel_rfl) (fun _ _ _ h => h) (Or.inl ⟨by rfl, ?_⟩) (by assumption) ?_
            rotate_left
            · intro W hSw; (try dsimp only at hSw); have o0 := (bk_cell hSw 0).trans rfl; have o1 := (bk_cell hSw 1).trans rfl; have o2 := (bk_cell hSw 2).trans rfl; have o3 := (bk_cell hSw 3).trans rfl; (try simp only [List.getElem_toArray, List.getElem_cons_succ, List.getElem_cons_zero]); go_simp; try with_reducible rfl
            try simp only [Act.put, List.setIfInBounds_toArray, List.set_cons_zero, List.set_cons_succ, List.getElem_toArray, List.getElem_cons_succ, List.getElem_cons_zero]
            refine wpAnyH_take (i := 40) (v := ?_) rfl (by kernel_rfl) (by kernel_rfl) (by kernel_rfl) (fun _ _ _ h => h) (Or.inl ⟨by rfl, ?_⟩) (by assumption) ?_
            rotate_left
            · intro W hSw; (try dsimp only at hSw); have o0 := (bk_cell hSw 0).trans rfl; have o1 := (bk_cell hSw 1).trans rfl; have o2 := (bk_cell hSw 2).trans rfl; have o3 := (bk_cell hSw 3).trans rfl; (try simp only [List.getElem_toArray, List.getElem_cons_succ, List.getElem_cons_zero]); go_simp; try with_reducible rfl
            try simp only [Act.put, List.setIfInBounds_toArray, List.set_cons_zero, List.set_cons_succ, List.getElem_toArray, List.getElem_cons_succ, List.getElem_cons_zero]
            refine wpAnyH_take (i := 41) (v := ?_) rfl (by kernel_rfl) (by kernel_rfl) (by kernel_rfl) (fun _ _ _ h => h) (Or.inl ⟨by rfl, ?_⟩) (by assumption) ?_
            rotate_left
            · intro W hSw; (try dsimp only at hSw); have o0 := (bk_cell hSw 0).trans rfl; have o1 := (bk_cell hSw 1).trans rfl; have o2 := (bk_cell hSw 2).trans rfl; have o3 := (bk_cell hSw 3).trans rfl; (try simp only [List.getElem_toArray, List.getElem_cons_succ, List.getElem_cons_zero]); go_simp; try with_reducible rfl
            try simp only [Act.put, List.setIfInBounds_toArray, List.set_cons_zero, List.set_cons_succ, List.getElem_toArray, List.getElem_cons_succ, List.getElem_cons_zero]
            refine wpAnyH_take (i := 43) (v := ?_) rfl (by kernel_rfl) (by kernel_rfl) (by kernel_rfl) (fun _ _ _ h => h) (Or.inl ⟨by rfl, ?_⟩) (by assumption) ?_
            rotate_left
            · intro W hSw; (try dsimp only at hSw); have o0 := (bk_cell hSw 0).trans rfl; have o1 := (bk_cell hSw 1).trans rfl; have o2 := (bk_cell hSw 2).trans rfl; have o3 := (bk_cell hSw 3).trans rfl; (try simp only [List.getElem_toArray, List.getElem_cons_succ, List.getElem_cons_zero]); go_simp; try with_reducible rfl
            try simp only [Act.put, List.setIfInBounds_toArray, List.set_cons_zero, List.set_cons_succ, List.getElem_toArray, List.getElem_cons_succ, List.getElem_cons_zero]
            have hp11 := hp10.below hb11
            refine wpAnyH_ready (rs := [42]) (by kernel_rfl) (by simp) ?_
            refine AllReadyH.cons rfl (fun KK hK => ?_) AllReadyH.nil
            try simp only [List.getElem_toArray, List.getElem_cons_succ, List.getElem_cons_zero]
            go_simp
            go_at_call 28
            refine (show Calls Try.prog 28 #[.pointer (some ⟨K.X, 0, none⟩), .int .i64 ch] w11 fun e W' => e = .returned (.int .i64 0) ∧ Below w11.heap.size w11 W' from by rw [← HWV.out]; exact sys_words ch hp11.s).mono ?_
            rintro e w13 ⟨rfl, hb13⟩
            (try go_wp2_with fail)
            refine hK.out _ _ ?_ (fun hHeld => ?_)
            · exact bk_below hob7 (bstep (bstep (bstep hb79 hb10) hb11) hb13)
            clear hK KK
            try simp only [Act.put, List.setIfInBounds_toArray, List.set_cons_zero, List.set_cons_succ, List.getElem_toArray, List.getElem_cons_succ, List.getElem_cons_zero]
            refine wpAnyH_take (i := 44) (v := ?_) rfl (by kernel_rfl) (by kernel_rfl) (by kernel_rfl) (fun _ _ _ h => h) (Or.inl ⟨by rfl, ?_⟩) (by assumption) ?_
            rotate_left
            · intro W hSw; (try dsimp only at hSw); (try simp only [List.getElem_toArray, List.getElem_cons_succ, List.getElem_cons_zero]); go_simp; try with_reducible rfl
            try simp only [Act.put, List.setIfInBounds_toArray, List.set_cons_zero, List.set_cons_succ, List.getElem_toArray, List.getElem_cons_succ, List.getElem_cons_zero]
            refine wpAnyH_take (i := 45) (v := ?_) rfl (by kernel_rfl) (by kernel_rfl) (by kernel_rfl) (fun _ _ _ h => h) (Or.inl ⟨by rfl, ?_⟩) (by assumption) ?_
            rotate_left
            · intro W hSw; (try dsimp only at hSw); (try simp only [List.getElem_toArray, List.getElem_cons_succ, List.getElem_cons_zero]); go_simp; try with_reducible rfl
            try simp only [Act.put, List.setIfInBounds_toArray, List.set_cons_zero, List.set_cons_succ, List.getElem_toArray, List.getElem_cons_succ, List.getElem_cons_zero]
            refine wpAnyH_done (by kernel_rfl) ?_ _
            have hb7e := bstep (bstep (bstep hb79 hb10) hb11) hb13
            have hBB : Below w1.heap.size wr w13 := ((((bdrew HAL.out).mono (by omega)).trans hb7)).trans (hb7e.mono (Nat.le_of_lt hp7.s.size))
            have HBZ := Lib.hid (HBr.out.trans (hBB.mono (Nat.le_of_lt hw1)))
            have HVZ := Lib.hid (HVr.out.keep HI.out hBB hw1 HBZ.out)
            have HPZ := Lib.hid (hp7.below hb7e)
            clear hb7e hBB hp7 hp8 hp9 hp10 hp11 hb7 hk7 hob7 hd7 hy7 hy9 hb8 hb9 hb79 hb10 hb11 hb13 hHeld
            go_wp2_with fail
            exact ⟨⟨k + 1, by omega, by go_num, HBZ.out, HVZ.out, LL', HPZ.out⟩, by simp [intOf]; omega⟩
      by_cases hc2 : (C.nC : Int) ≤ ch
      · have HWV := Lib.hid (show wordsE C ch = (0 : Int) from if_pos (.inr hc2))
        have q1 : decide ((0 : Int) ≤ ch) = true := decide_eq_true (by omega)
        have q2 : decide (ch < (C.nC : Int)) = false := decide_eq_false (by omega)
        have xW : ((0 : Int) == 0) = true := by simp
        go_wp2_with fail
        refine wp_region_held_drew (S := (fun W' => W'.heap[wr.heap.size]? = some (.cells #[.int .i64 d, .int .i64 pt, .int .i64 ch, .slice q xs.length cp] 43 (0, 0)))) (by kernel_rfl) ?_ (fun hHeld => ?_)
        · exact HOB.out
        refine wpAnyH_take (i := 0) (v := ?_) rfl (by kernel_rfl) (by kernel_rfl) (by kernel_rfl) (fun _ _ _ h => h) (Or.inl ⟨by rfl, ?_⟩) (by assumption) ?_
        rotate_left
        · intro W hSw; (try dsimp only at hSw); have o0 := (bk_cell hSw 0).trans rfl; have o1 := (bk_cell hSw 1).trans rfl; have o2 := (bk_cell hSw 2).trans rfl; have o3 := (bk_cell hSw 3).trans rfl; (try simp only [List.getElem_toArray, List.getElem_cons_succ, List.getElem_cons_zero]); go_simp; try with_reducible rfl
        try simp only [Act.put, List.setIfInBounds_toArray, List.set_cons_zero, List.set_cons_succ, List.getElem_toArray, List.getElem_cons_succ, List.getElem_cons_zero]
        refine wpAnyH_take (i := 1) (v := ?_) rfl (by kernel_rfl) (by kernel_rfl) (by kernel_rfl) (fun _ _ _ h => h) (Or.inl ⟨by rfl, ?_⟩) (by assumption) ?_
        rotate_left
        · intro W hSw; (try dsimp only at hSw); have o0 := (bk_cell hSw 0).trans rfl; have o1 := (bk_cell hSw 1).trans rfl; have o2 := (bk_cell hSw 2).trans rfl; have o3 := (bk_cell hSw 3).trans rfl; (try simp only [List.getElem_toArray, List.getElem_cons_succ, List.getElem_cons_zero]); go_simp; try with_reducible rfl
        try simp only [Act.put, List.setIfInBounds_toArray, List.set_cons_zero, List.set_cons_succ, List.getElem_toArray, List.getElem_cons_succ, List.getElem_cons_zero]
        refine wpAnyH_ready (rs := [2]) (by kernel_rfl) (by simp) ?_
        refine AllReadyH.cons rfl (fun KK hK => ?_) AllReadyH.nil
        try simp only [List.getElem_toArray, List.getElem_cons_succ, List.getElem_cons_zero]
        go_simp
        go_at_call 24
        refine (play_any w1.heap.size w6.heap.size w5.heap.size C K pC cC k LL d pt ch q xs cp _ (HPr.out.below (bdrew HAL.out)) hok HBF.out hz6 hLg HPL.out (by omega) (HU1.out.below (bdrew HBa.out)) HU2.out HQ.out).mono ?_
        rintro e w7 ⟨rfl, ⟨LL', hp7⟩, hb7, hk7⟩
        have hob7 := hk7 _ _ (show ((wr.alloc (.cells #[.int .i64 d, .int .i64 pt, .int .i64 ch, .slice q xs.length cp] 43)).drew).heap[wr.heap.size]? = some (.cells #[.int .i64 d, .int .i64 pt, .int .i64 ch, .slice q xs.length cp] 43 (0, 0)) from HOB.out) HFX.out.1 HFX.out.2.1 HFX.out.2.2
        (try go_wp2_with fail)
        refine hK.out _ _ ?_ (fun hHeld => ?_)
        · exact hob7
        clear hK KK
        try simp only [Act.put, List.setIfInBounds_toArray, List.set_cons_zero, List.set_cons_succ, List.getElem_toArray, List.getElem_cons_succ, List.getElem_cons_zero]
        obtain ⟨_, vp, vb, vcap, vq, vcp, vout, vV, hd7, hy7⟩ := hp7.r
        have g0 : w7.cell? ⟨w6.heap.size, 0, none⟩ = some (.slice pC C.nC cC) := (bk_cell hd7 0).trans rfl
        have g1 : w7.cell? ⟨w6.heap.size, 1, none⟩ = some (.slice vp C.nC vcap) := (bk_cell hd7 1).trans rfl
        refine wpAnyH_take (i := 3) (v := ?_) rfl (by kernel_rfl) (by kernel_rfl) (by kernel_rfl) (fun _ _ _ h => h) (Or.inl ⟨by rfl, ?_⟩) (by assumption) ?_
        rotate_left
        · intro W hSw; (try dsimp only at hSw); have o0 := (bk_cell hSw 0).trans rfl; have o1 := (bk_cell hSw 1).trans rfl; have o2 := (bk_cell hSw 2).trans rfl; have o3 := (bk_cell hSw 3).trans rfl; (try simp only [List.getElem_toArray, List.getElem_cons_succ, List.getElem_cons_zero]); go_simp; try with_reducible rfl
        try simp only [Act.put, List.setIfInBounds_toArray, List.set_cons_zero, List.set_cons_succ, List.getElem_toArray, List.getElem_cons_succ, List.getElem_cons_zero]
        refine wpAnyH_take (i := 4) (v := ?_) rfl (by kernel_rfl) (by kernel_rfl) (by kernel_rfl) (fun _ _ _ h => h) (Or.inl ⟨by rfl, ?_⟩) (by assumption) ?_
        rotate_left
        · intro W hSw; (try dsimp only at hSw); have o0 := (bk_cell hSw 0).trans rfl; have o1 := (bk_cell hSw 1).trans rfl; have o2 := (bk_cell hSw 2).trans rfl; have o3 := (bk_cell hSw 3).trans rfl; (try simp only [List.getElem_toArray, List.getElem_cons_succ, List.getElem_cons_zero]); go_simp; try with_reducible rfl
        try simp only [Act.put, List.setIfInBounds_toArray, List.set_cons_zero, List.set_cons_succ, List.getElem_toArray, List.getElem_cons_succ, List.getElem_cons_zero]
        refine wpAnyH_take (i := 5) (v := ?_) rfl (by kernel_rfl) (by kernel_rfl) (by kernel_rfl) (fun _ _ _ h => h) (Or.inl ⟨by rfl, ?_⟩) (by assumption) ?_
        rotate_left
        · intro W hSw; (try dsimp only at hSw); have o0 := (bk_cell hSw 0).trans rfl; have o1 := (bk_cell hSw 1).trans rfl; have o2 := (bk_cell hSw 2).trans rfl; have o3 := (bk_cell hSw 3).trans rfl; (try simp only [List.getElem_toArray, List.getElem_cons_succ, List.getElem_cons_zero]); go_simp; try with_reducible rfl
        try simp only [Act.put, List.setIfInBounds_toArray, List.set_cons_zero, List.set_cons_succ, List.getElem_toArray, List.getElem_cons_succ, List.getElem_cons_zero]
        refine wpAnyH_take (i := 6) (v := ?_) rfl (by kernel_rfl) (by kernel_rfl) (by kernel_rfl) (fun _ _ _ h => h) (Or.inl ⟨by rfl, ?_⟩) (by assumption) ?_
        rotate_left
        · intro W hSw; (try dsimp only at hSw); have o0 := (bk_cell hSw 0).trans rfl; have o1 := (bk_cell hSw 1).trans rfl; have o2 := (bk_cell hSw 2).trans rfl; have o3 := (bk_cell hSw 3).trans rfl; (try simp only [List.getElem_toArray, List.getElem_cons_succ, List.getElem_cons_zero]); go_simp; try with_reducible rfl
        try simp only [Act.put, List.setIfInBounds_toArray, List.set_cons_zero, List.set_cons_succ, List.getElem_toArray, List.getElem_cons_succ, List.getElem_cons_zero]
        refine wpAnyH_take (i := 7) (v := ?_) rfl (by kernel_rfl) (by kernel_rfl) (by kernel_rfl) (fun _ _ _ h => h) (Or.inl ⟨by rfl, ?_⟩) (by assumption) ?_
        rotate_left
        · intro W hSw; (try dsimp only at hSw); have o0 := (bk_cell hSw 0).trans rfl; have o1 := (bk_cell hSw 1).trans rfl; have o2 := (bk_cell hSw 2).trans rfl; have o3 := (bk_cell hSw 3).trans rfl; (try simp only [List.getElem_toArray, List.getElem_cons_succ, List.getElem_cons_zero]); go_simp; try with_reducible rfl
        try simp only [Act.put, List.setIfInBounds_toArray, List.set_cons_zero, List.set_cons_succ, List.getElem_toArray, List.getElem_cons_succ, List.getElem_cons_zero]
        refine wpAnyH_take (i := 8) (v := ?_) rfl (by kernel_rfl) (by kernel_rfl) (by kernel_rfl) (fun _ _ _ h => h) (Or.inl ⟨by rfl, ?_⟩) (by assumption) ?_
        rotate_left
        · intro W hSw; (try dsimp only at hSw); have o0 := (bk_cell hSw 0).trans rfl; have o1 := (bk_cell hSw 1).trans rfl; have o2 := (bk_cell hSw 2).trans rfl; have o3 := (bk_cell hSw 3).trans rfl; (try simp only [List.getElem_toArray, List.getElem_cons_succ, List.getElem_cons_zero]); go_simp; try with_reducible rfl
        try simp only [Act.put, List.setIfInBounds_toArray, List.set_cons_zero, List.set_cons_succ, List.getElem_toArray, List.getElem_cons_succ, List.getElem_cons_zero]
        refine wpAnyH_take (i := 9) (v := ?_) rfl (by kernel_rfl) (by kernel_rfl) (by kernel_rfl) (fun _ _ _ h => h) (Or.inl ⟨by rfl, ?_⟩) (by assumption) ?_
        rotate_left
        · intro W hSw; (try dsimp only at hSw); have o0 := (bk_cell hSw 0).trans rfl; have o1 := (bk_cell hSw 1).trans rfl; have o2 := (bk_cell hSw 2).trans rfl; have o3 := (bk_cell hSw 3).trans rfl; (try simp only [List.getElem_toArray, List.getElem_cons_succ, List.getElem_cons_zero]); go_simp; try with_reducible rfl
        try simp only [Act.put, List.setIfInBounds_toArray, List.set_cons_zero, List.set_cons_succ, List.getElem_toArray, List.getElem_cons_succ, List.getElem_cons_zero]
        refine wpAnyH_take (i := 10) (v := ?_) rfl (by kernel_rfl) (by kernel_rfl) (by kernel_rfl) (fun _ _ _ h => h) (Or.inl ⟨by rfl, ?_⟩) (by assumption) ?_
        rotate_left
        · intro W hSw; (try dsimp only at hSw); have o0 := (bk_cell hSw 0).trans rfl; have o1 := (bk_cell hSw 1).trans rfl; have o2 := (bk_cell hSw 2).trans rfl; have o3 := (bk_cell hSw 3).trans rfl; (try simp only [List.getElem_toArray, List.getElem_cons_succ, List.getElem_cons_zero]); go_simp; try with_reducible rfl
        try simp only [Act.put, List.setIfInBounds_toArray, List.set_cons_zero, List.set_cons_succ, List.getElem_toArray, List.getElem_cons_succ, List.getElem_cons_zero]
        refine wpAnyH_take (i := 11) (v := ?_) rfl (by kernel_rfl) (by kernel_rfl) (by kernel_rfl) (fun _ _ _ h => h) (Or.inl ⟨by rfl, ?_⟩) (by assumption) ?_
        rotate_left
        · intro W hSw; (try dsimp only at hSw); have o0 := (bk_cell hSw 0).trans rfl; have o1 := (bk_cell hSw 1).trans rfl; have o2 := (bk_cell hSw 2).trans rfl; have o3 := (bk_cell hSw 3).trans rfl; (try simp only [List.getElem_toArray, List.getElem_cons_succ, List.getElem_cons_zero]); go_simp; try with_reducible rfl
        try simp only [Act.put, List.setIfInBounds_toArray, List.set_cons_zero, List.set_cons_succ, List.getElem_toArray, List.getElem_cons_succ, List.getElem_cons_zero]
        refine wpAnyH_take (i := 12) (v := ?_) rfl (by kernel_rfl) (by kernel_rfl) (by kernel_rfl) (fun _ _ _ h => h) (Or.inl ⟨by rfl, ?_⟩) (by assumption) ?_
        rotate_left
        · intro W hSw; (try dsimp only at hSw); have o0 := (bk_cell hSw 0).trans rfl; have o1 := (bk_cell hSw 1).trans rfl; have o2 := (bk_cell hSw 2).trans rfl; have o3 := (bk_cell hSw 3).trans rfl; (try simp only [List.getElem_toArray, List.getElem_cons_succ, List.getElem_cons_zero]); go_simp; try with_reducible rfl
        try simp only [Act.put, List.setIfInBounds_toArray, List.set_cons_zero, List.set_cons_succ, List.getElem_toArray, List.getElem_cons_succ, List.getElem_cons_zero]
        refine wpAnyH_take (i := 13) (v := ?_) rfl (by kernel_rfl) (by kernel_rfl) (by kernel_rfl) (fun _ _ _ h => h) (Or.inl ⟨by rfl, ?_⟩) (by assumption) ?_
        rotate_left
        · intro W hSw; (try dsimp only at hSw); have o0 := (bk_cell hSw 0).trans rfl; have o1 := (bk_cell hSw 1).trans rfl; have o2 := (bk_cell hSw 2).trans rfl; have o3 := (bk_cell hSw 3).trans rfl; (try simp only [List.getElem_toArray, List.getElem_cons_succ, List.getElem_cons_zero]); go_simp; try with_reducible rfl
        try simp only [Act.put, List.setIfInBounds_toArray, List.set_cons_zero, List.set_cons_succ, List.getElem_toArray, List.getElem_cons_succ, List.getElem_cons_zero]
        refine wpAnyH_take (i := 16) (v := ?_) rfl (by kernel_rfl) (by kernel_rfl) (by kernel_rfl) (fun _ _ _ h => h) (Or.inl ⟨by rfl, ?_⟩) (by assumption) ?_
        rotate_left
        · intro W hSw; (try dsimp only at hSw); have o0 := (bk_cell hSw 0).trans rfl; have o1 := (bk_cell hSw 1).trans rfl; have o2 := (bk_cell hSw 2).trans rfl; have o3 := (bk_cell hSw 3).trans rfl; (try simp only [List.getElem_toArray, List.getElem_cons_succ, List.getElem_cons_zero]); go_simp; try with_reducible rfl
        try simp only [Act.put, List.setIfInBounds_toArray, List.set_cons_zero, List.set_cons_succ, List.getElem_toArray, List.getElem_cons_succ, List.getElem_cons_zero]
        refine wpAnyH_take (i := 17) (v := ?_) rfl (by kernel_rfl) (by kernel_rfl) (by kernel_rfl) (fun _ _ _ h => h) (Or.inl ⟨by rfl, ?_⟩) (by assumption) ?_
        rotate_left
        · intro W hSw; (try dsimp only at hSw); have o0 := (bk_cell hSw 0).trans rfl; have o1 := (bk_cell hSw 1).trans rfl; have o2 := (bk_cell hSw 2).trans rfl; have o3 := (bk_cell hSw 3).trans rfl; (try simp only [List.getElem_toArray, List.getElem_cons_succ, List.getElem_cons_zero]); go_simp; try with_reducible rfl
        try simp only [Act.put, List.setIfInBounds_toArray, List.set_cons_zero, List.set_cons_succ, List.getElem_toArray, List.getElem_cons_succ, List.getElem_cons_zero]
        refine wpAnyH_take (i := 18) (v := ?_) rfl (by kernel_rfl) (by kernel_rfl) (by kernel_rfl) (fun _ _ _ h => h) (Or.inl ⟨by rfl, ?_⟩) (by assumption) ?_
        rotate_left
        · intro W hSw; (try dsimp only at hSw); have o0 := (bk_cell hSw 0).trans rfl; have o1 := (bk_cell hSw 1).trans rfl; have o2 := (bk_cell hSw 2).trans rfl; have o3 := (bk_cell hSw 3).trans rfl; (try simp only [List.getElem_toArray, List.getElem_cons_succ, List.getElem_cons_zero]); go_simp; try with_reducible rfl
        try simp only [Act.put, List.setIfInBounds_toArray, List.set_cons_zero, List.set_cons_succ, List.getElem_toArray, List.getElem_cons_succ, List.getElem_cons_zero]
        refine wpAnyH_take (i := 19) (v := ?_) rfl (by kernel_rfl) (by kernel_rfl) (by kernel_rfl) (fun _ _ _ h => h) (Or.inl ⟨by rfl, ?_⟩) (by assumption) ?_
        rotate_left
        · intro W hSw; (try dsimp only at hSw); have o0 := (bk_cell hSw 0).trans rfl; have o1 := (bk_cell hSw 1).trans rfl; have o2 := (bk_cell hSw 2).trans rfl; have o3 := (bk_cell hSw 3).trans rfl; (try simp only [List.getElem_toArray, List.getElem_cons_succ, List.getElem_cons_zero]); go_simp; try with_reducible rfl
        try simp only [Act.put, List.setIfInBounds_toArray, List.set_cons_zero, List.set_cons_succ, List.getElem_toArray, List.getElem_cons_succ, List.getElem_cons_zero]
        refine wpAnyH_take (i := 20) (v := ?_) rfl (by kernel_rfl) (by kernel_rfl) (by kernel_rfl) (fun _ _ _ h => h) (Or.inl ⟨by rfl, ?_⟩) (by assumption) ?_
        rotate_left
        · intro W hSw; (try dsimp only at hSw); have o0 := (bk_cell hSw 0).trans rfl; have o1 := (bk_cell hSw 1).trans rfl; have o2 := (bk_cell hSw 2).trans rfl; have o3 := (bk_cell hSw 3).trans rfl; (try simp only [List.getElem_toArray, List.getElem_cons_succ, List.getElem_cons_zero]); go_simp; try with_reducible rfl
        try simp only [Act.put, List.setIfInBounds_toArray, List.set_cons_zero, List.set_cons_succ, List.getElem_toArray, List.getElem_cons_succ, List.getElem_cons_zero]
        refine wpAnyH_take (i := 21) (v := ?_) rfl (by kernel_rfl) (by kernel_rfl) (by kernel_rfl) (fun _ _ _ h => h) (Or.inl ⟨by rfl, ?_⟩) (by assumption) ?_
        rotate_left
        · intro W hSw; (try dsimp only at hSw); have o0 := (bk_cell hSw 0).trans rfl; have o1 := (bk_cell hSw 1).trans rfl; have o2 := (bk_cell hSw 2).trans rfl; have o3 := (bk_cell hSw 3).trans rfl; (try simp only [List.getElem_toArray, List.getElem_cons_succ, List.getElem_cons_zero]); go_simp; try with_reducible rfl
        try simp only [Act.put, List.setIfInBounds_toArray, List.set_cons_zero, List.set_cons_succ, List.getElem_toArray, List.getElem_cons_succ, List.getElem_cons_zero]
        refine wpAnyH_take (i := 22) (v := ?_) rfl (by kernel_rfl) (by kernel_rfl) (by kernel_rfl) (fun _ _ _ h => h) (Or.inl ⟨by rfl, ?_⟩) (by assumption) ?_
        rotate_left
        · intro W hSw; (try dsimp only at hSw); have o0 := (bk_cell hSw 0).trans rfl; have o1 := (bk_cell hSw 1).trans rfl; have o2 := (bk_cell hSw 2).trans rfl; have o3 := (bk_cell hSw 3).trans rfl; (try simp only [List.getElem_toArray, List.getElem_cons_succ, List.getElem_cons_zero]); go_simp; try with_reducible rfl
        try simp only [Act.put, List.setIfInBounds_toArray, List.set_cons_zero, List.set_cons_succ, List.getElem_toArray, List.getElem_cons_succ, List.getElem_cons_zero]
        refine wpAnyH_take (i := 23) (v := ?_) rfl (by kernel_rfl) (by kernel_rfl) (by kernel_rfl) (fun _ _ _ h => h) (Or.inl ⟨by rfl, ?_⟩) (by assumption) ?_
        rotate_left
        · intro W hSw; (try dsimp only at hSw); have o0 := (bk_cell hSw 0).trans rfl; have o1 := (bk_cell hSw 1).trans rfl; have o2 := (bk_cell hSw 2).trans rfl; have o3 := (bk_cell hSw 3).trans rfl; (try simp only [List.getElem_toArray, List.getElem_cons_succ, List.getElem_cons_zero]); go_simp; try with_reducible rfl
        try simp only [Act.put, List.setIfInBounds_toArray, List.set_cons_zero, List.set_cons_succ, List.getElem_toArray, List.getElem_cons_succ, List.getElem_cons_zero]
        refine wpAnyH_ready (rs := [14, 15]) (by kernel_rfl) (by simp) ?_
        refine AllReadyH.cons rfl (fun KK hK => ?_) (AllReadyH.cons rfl (fun KK hK => ?_) AllReadyH.nil)
        · skip
          try simp only [List.getElem_toArray, List.getElem_cons_succ, List.getElem_cons_zero]
          go_simp
          go_at_call 25
          refine (show Calls Try.prog 25 #[.pointer (some ⟨K.X, 0, none⟩), .int .i64 pt, .int .i64 ch, .bool (d.tmod 2 == 1)] w7 fun e W' => e = .returned (.int .i64 E1) ∧ Below w7.heap.size w7 W' from by rw [HF.out]; exact sys_may pt ch _ hp7.s).mono ?_
          rintro e w8 ⟨rfl, hb8⟩
          (try go_wp2_with fail)
          refine hK.out _ _ ?_ (fun hHeld => ?_)
          · exact bk_below hob7 hb8
          clear hK KK
          try simp only [Act.put, List.setIfInBounds_toArray, List.set_cons_zero, List.set_cons_succ, List.getElem_toArray, List.getElem_cons_succ, List.getElem_cons_zero]
          have g0' := keepc hb8 g0
          have g1' := keepc hb8 g1
          refine wpAnyH_ready (rs := [15]) (by kernel_rfl) (by simp) ?_
          refine AllReadyH.cons rfl (fun KK hK => ?_) AllReadyH.nil
          try simp only [List.getElem_toArray, List.getElem_cons_succ, List.getElem_cons_zero]
          go_simp
          refine hK.out _ _ ?_ (fun hHeld => ?_)
          · exact bk_below hob7 hb8
          clear hK KK
          try simp only [Act.put, List.setIfInBounds_toArray, List.set_cons_zero, List.set_cons_succ, List.getElem_toArray, List.getElem_cons_succ, List.getElem_cons_zero]
          have hp8 := hp7.below hb8
          refine wpAnyH_ready (rs := [24]) (by kernel_rfl) (by simp) ?_
          refine AllReadyH.cons rfl (fun KK hK => ?_) AllReadyH.nil
          try simp only [List.getElem_toArray, List.getElem_cons_succ, List.getElem_cons_zero]
          go_simp
          go_at_call 26
          refine (show Calls Try.prog 26 #[.agg #[.slice pC C.nC cC, .slice vp C.nC vcap], .int .i64 pt, .int .i64 ch, .bool (d.tmod 2 == 1)] w8 fun e W' => e = .returned (.int .i64 E1) ∧ Below w8.heap.size w8 W' from by rw [HF.out]; exact rmay_any C pC vp cC C.nC vcap pt ch _ w8 hp8.c hn16).mono ?_
          rintro e w9 ⟨rfl, hb9⟩
          (try go_wp2_with fail)
          refine hK.out _ _ ?_ (fun hHeld => ?_)
          · exact bk_below hob7 (bstep hb8 hb9)
          clear hK KK
          try simp only [Act.put, List.setIfInBounds_toArray, List.set_cons_zero, List.set_cons_succ, List.getElem_toArray, List.getElem_cons_succ, List.getElem_cons_zero]
          refine wpAnyH_take (i := 25) (v := ?_) rfl (by kernel_rfl) (by kernel_rfl) (by kernel_rfl) (fun _ _ _ h => h) (Or.inl ⟨by rfl, ?_⟩) (by assumption) ?_
          rotate_left
          · intro W hSw; (try dsimp only at hSw); have o0 := (bk_cell hSw 0).trans rfl; have o1 := (bk_cell hSw 1).trans rfl; have o2 := (bk_cell hSw 2).trans rfl; have o3 := (bk_cell hSw 3).trans rfl; (try simp only [List.getElem_toArray, List.getElem_cons_succ, List.getElem_cons_zero]); go_simp; try with_reducible rfl
          try simp only [Act.put, List.setIfInBounds_toArray, List.set_cons_zero, List.set_cons_succ, List.getElem_toArray, List.getElem_cons_succ, List.getElem_cons_zero]
          refine wpAnyH_take (i := 26) (v := ?_) rfl (by kernel_rfl) (by kernel_rfl) (by kernel_rfl) (fun _ _ _ h => h) (Or.inl ⟨by rfl, ?_⟩) (by assumption) ?_
          rotate_left
          · intro W hSw; (try dsimp only at hSw); have o0 := (bk_cell hSw 0).trans rfl; have o1 := (bk_cell hSw 1).trans rfl; have o2 := (bk_cell hSw 2).trans rfl; have o3 := (bk_cell hSw 3).trans rfl; (try simp only [List.getElem_toArray, List.getElem_cons_succ, List.getElem_cons_zero]); go_simp; try with_reducible rfl
          try simp only [Act.put, List.setIfInBounds_toArray, List.set_cons_zero, List.set_cons_succ, List.getElem_toArray, List.getElem_cons_succ, List.getElem_cons_zero]
          refine wpAnyH_take (i := 27) (v := ?_) rfl (by kernel_rfl) (by kernel_rfl) (by kernel_rfl) (fun _ _ _ h => h) (Or.inl ⟨by rfl, ?_⟩) (by assumption) ?_
          rotate_left
          · intro W hSw; (try dsimp only at hSw); have o0 := (bk_cell hSw 0).trans rfl; have o1 := (bk_cell hSw 1).trans rfl; have o2 := (bk_cell hSw 2).trans rfl; have o3 := (bk_cell hSw 3).trans rfl; (try simp only [List.getElem_toArray, List.getElem_cons_succ, List.getElem_cons_zero]); go_simp; try with_reducible rfl
          try simp only [Act.put, List.setIfInBounds_toArray, List.set_cons_zero, List.set_cons_succ, List.getElem_toArray, List.getElem_cons_succ, List.getElem_cons_zero]
          refine wpAnyH_take (i := 28) (v := ?_) rfl (by kernel_rfl) (by kernel_rfl) (by kernel_rfl) (fun _ _ _ h => h) (Or.inl ⟨by rfl, ?_⟩) (by assumption) ?_
          rotate_left
          · intro W hSw; (try dsimp only at hSw); have o0 := (bk_cell hSw 0).trans rfl; have o1 := (bk_cell hSw 1).trans rfl; have o2 := (bk_cell hSw 2).trans rfl; have o3 := (bk_cell hSw 3).trans rfl; (try simp only [List.getElem_toArray, List.getElem_cons_succ, List.getElem_cons_zero]); go_simp; try with_reducible rfl
          try simp only [Act.put, List.setIfInBounds_toArray, List.set_cons_zero, List.set_cons_succ, List.getElem_toArray, List.getElem_cons_succ, List.getElem_cons_zero]
          refine wpAnyH_take (i := 29) (v := ?_) rfl (by kernel_rfl) (by kernel_rfl) (by kernel_rfl) (fun _ _ _ h => h) (Or.inl ⟨by rfl, ?_⟩) (by assumption) ?_
          rotate_left
          · intro W hSw; (try dsimp only at hSw); have o0 := (bk_cell hSw 0).trans rfl; have o1 := (bk_cell hSw 1).trans rfl; have o2 := (bk_cell hSw 2).trans rfl; have o3 := (bk_cell hSw 3).trans rfl; (try simp only [List.getElem_toArray, List.getElem_cons_succ, List.getElem_cons_zero]); go_simp; try with_reducible rfl
          try simp only [Act.put, List.setIfInBounds_toArray, List.set_cons_zero, List.set_cons_succ, List.getElem_toArray, List.getElem_cons_succ, List.getElem_cons_zero]
          refine wpAnyH_take (i := 30) (v := ?_) rfl (by kernel_rfl) (by kernel_rfl) (by kernel_rfl) (fun _ _ _ h => h) (Or.inl ⟨by rfl, ?_⟩) (by assumption) ?_
          rotate_left
          · intro W hSw; (try dsimp only at hSw); have o0 := (bk_cell hSw 0).trans rfl; have o1 := (bk_cell hSw 1).trans rfl; have o2 := (bk_cell hSw 2).trans rfl; have o3 := (bk_cell hSw 3).trans rfl; (try simp only [List.getElem_toArray, List.getElem_cons_succ, List.getElem_cons_zero]); go_simp; try with_reducible rfl
          try simp only [Act.put, List.setIfInBounds_toArray, List.set_cons_zero, List.set_cons_succ, List.getElem_toArray, List.getElem_cons_succ, List.getElem_cons_zero]
          refine wpAnyH_take (i := 33) (v := ?_) rfl (by kernel_rfl) (by kernel_rfl) (by kernel_rfl) (fun _ _ _ h => h) (Or.inl ⟨by rfl, ?_⟩) (by assumption) ?_
          rotate_left
          · intro W hSw; (try dsimp only at hSw); have o0 := (bk_cell hSw 0).trans rfl; have o1 := (bk_cell hSw 1).trans rfl; have o2 := (bk_cell hSw 2).trans rfl; have o3 := (bk_cell hSw 3).trans rfl; (try simp only [List.getElem_toArray, List.getElem_cons_succ, List.getElem_cons_zero]); go_simp; try with_reducible rfl
          try simp only [Act.put, List.setIfInBounds_toArray, List.set_cons_zero, List.set_cons_succ, List.getElem_toArray, List.getElem_cons_succ, List.getElem_cons_zero]
          refine wpAnyH_take (i := 34) (v := ?_) rfl (by kernel_rfl) (by kernel_rfl) (by kernel_rfl) (fun _ _ _ h => h) (Or.inl ⟨by rfl, ?_⟩) (by assumption) ?_
          rotate_left
          · intro W hSw; (try dsimp only at hSw); have o0 := (bk_cell hSw 0).trans rfl; have o1 := (bk_cell hSw 1).trans rfl; have o2 := (bk_cell hSw 2).trans rfl; have o3 := (bk_cell hSw 3).trans rfl; (try simp only [List.getElem_toArray, List.getElem_cons_succ, List.getElem_cons_zero]); go_simp; try with_reducible rfl
          try simp only [Act.put, List.setIfInBounds_toArray, List.set_cons_zero, List.set_cons_succ, List.getElem_toArray, List.getElem_cons_succ, List.getElem_cons_zero]
          have hp9 := hp8.below hb9
          have hb79 := bstep hb8 hb9
          have e0 := keepc hb79 g0
          have e1 := keepc hb79 g1
          have hy9 := hy7.below hb79
          refine wpAnyH_ready (rs := [31, 32]) (by kernel_rfl) (by simp) ?_
          refine AllReadyH.cons rfl (fun KK hK => ?_) (AllReadyH.cons rfl (fun KK hK => ?_) AllReadyH.nil)
          · skip
            try simp only [List.getElem_toArray, List.getElem_cons_succ, List.getElem_cons_zero]
            go_simp
            go_at_call 20
            refine (sys_room ch hp9.s).mono ?_
            rintro e w10 ⟨rfl, hb10⟩
            (try go_wp2_with fail)
            refine hK.out _ _ ?_ (fun hHeld => ?_)
            · exact bk_below hob7 (bstep hb79 hb10)
            clear hK KK
            try simp only [Act.put, List.setIfInBounds_toArray, List.set_cons_zero, List.set_cons_succ, List.getElem_toArray, List.getElem_cons_succ, List.getElem_cons_zero]
            have e0' := keepc hb10 e0
            have e1' := keepc hb10 e1
            refine wpAnyH_ready (rs := [32]) (by kernel_rfl) (by simp) ?_
            refine AllReadyH.cons rfl (fun KK hK => ?_) AllReadyH.nil
            try simp only [List.getElem_toArray, List.getElem_cons_succ, List.getElem_cons_zero]
            go_simp
            refine hK.out _ _ ?_ (fun hHeld => ?_)
            · exact bk_below hob7 (bstep hb79 hb10)
            clear hK KK
            try simp only [Act.put, List.setIfInBounds_toArray, List.set_cons_zero, List.set_cons_succ, List.getElem_toArray, List.getElem_cons_succ, List.getElem_cons_zero]
            have hp10 := hp9.below hb10
            refine wpAnyH_ready (rs := [35]) (by kernel_rfl) (by simp) ?_
            refine AllReadyH.cons rfl (fun KK hK => ?_) AllReadyH.nil
            try simp only [List.getElem_toArray, List.getElem_cons_succ, List.getElem_cons_zero]
            go_simp
            go_at_call 27
            refine (rroom_any pC cC ch (hy9.below hb10) hp10.c hok).mono ?_
            rintro e w11 ⟨rfl, hb11⟩
            (try go_wp2_with fail)
            refine hK.out _ _ ?_ (fun hHeld => ?_)
            · exact bk_below hob7 (bstep (bstep hb79 hb10) hb11)
            clear hK KK
            try simp only [Act.put, List.setIfInBounds_toArray, List.set_cons_zero, List.set_cons_succ, List.getElem_toArray, List.getElem_cons_succ, List.getElem_cons_zero]
            have xR : (roomE C LL' ch == roomE C LL' ch) = true := by simp
            refine wpAnyH_take (i := 36) (v := ?_) rfl (by kernel_rfl) (by kernel_rfl) (by kernel_rfl) (fun _ _ _ h => h) (Or.inl ⟨by rfl, ?_⟩) (by assumption) ?_
            rotate_left
            · intro W hSw; (try dsimp only at hSw); have o0 := (bk_cell hSw 0).trans rfl; have o1 := (bk_cell hSw 1).trans rfl; have o2 := (bk_cell hSw 2).trans rfl; have o3 := (bk_cell hSw 3).trans rfl; (try simp only [List.getElem_toArray, List.getElem_cons_succ, List.getElem_cons_zero]); go_simp; try with_reducible rfl
            try simp only [Act.put, List.setIfInBounds_toArray, List.set_cons_zero, List.set_cons_succ, List.getElem_toArray, List.getElem_cons_succ, List.getElem_cons_zero]
            refine wpAnyH_take (i := 37) (v := ?_) rfl (by kernel_rfl) (by kernel_rfl) (by kernel_rfl) (fun _ _ _ h => h) (Or.inl ⟨by rfl, ?_⟩) (by assumption) ?_
            rotate_left
            · intro W hSw; (try dsimp only at hSw); have o0 := (bk_cell hSw 0).trans rfl; have o1 := (bk_cell hSw 1).trans rfl; have o2 := (bk_cell hSw 2).trans rfl; have o3 := (bk_cell hSw 3).trans rfl; (try simp only [List.getElem_toArray, List.getElem_cons_succ, List.getElem_cons_zero]); go_simp; try with_reducible rfl
            try simp only [Act.put, List.setIfInBounds_toArray, List.set_cons_zero, List.set_cons_succ, List.getElem_toArray, List.getElem_cons_succ, List.getElem_cons_zero]
            refine wpAnyH_take (i := 38) (v := ?_) rfl (by kernel_rfl) (by kernel_rfl) (by kernel_rfl) (fun _ _ _ h => h) (Or.inl ⟨by rfl, ?_⟩) (by assumption) ?_
            rotate_left
            · intro W hSw; (try dsimp only at hSw); have o0 := (bk_cell hSw 0).trans rfl; have o1 := (bk_cell hSw 1).trans rfl; have o2 := (bk_cell hSw 2).trans rfl; have o3 := (bk_cell hSw 3).trans rfl; (try simp only [List.getElem_toArray, List.getElem_cons_succ, List.getElem_cons_zero]); go_simp; try with_reducible rfl
            try simp only [Act.put, List.setIfInBounds_toArray, List.set_cons_zero, List.set_cons_succ, List.getElem_toArray, List.getElem_cons_succ, List.getElem_cons_zero]
            refine wpAnyH_take (i := 39) (v := ?_) rfl (by kernel_rfl) (by kernel_rfl) (by kernel_rfl) (fun _ _ _ h => h) (Or.inl ⟨by rfl, ?_⟩) (by assumption) ?_
            rotate_left
            · intro W hSw; (try dsimp only at hSw); have o0 := (bk_cell hSw 0).trans rfl; have o1 := (bk_cell hSw 1).trans rfl; have o2 := (bk_cell hSw 2).trans rfl; have o3 := (bk_cell hSw 3).trans rfl; (try simp only [List.getElem_toArray, List.getElem_cons_succ, List.getElem_cons_zero]); go_simp; try with_reducible rfl
            try simp only [Act.put, List.setIfInBounds_toArray, List.set_cons_zero, List.set_cons_succ, List.getElem_toArray, List.getElem_cons_succ, List.getElem_cons_zero]
            refine wpAnyH_take (i := 40) (v := ?_) rfl (by kernel_rfl) (by kernel_rfl) (by kernel_rfl) (fun _ _ _ h => h) (Or.inl ⟨by rfl, ?_⟩) (by assumption) ?_
            rotate_left
            · intro W hSw; (try dsimp only at hSw); have o0 := (bk_cell hSw 0).trans rfl; have o1 := (bk_cell hSw 1).trans rfl; have o2 := (bk_cell hSw 2).trans rfl; have o3 := (bk_cell hSw 3).trans rfl; (try simp only [List.getElem_toArray, List.getElem_cons_succ, List.getElem_cons_zero]); go_simp; try with_reducible rfl
            try simp only [Act.put, List.setIfInBounds_toArray, List.set_cons_zero, List.set_cons_succ, List.getElem_toArray, List.getElem_cons_succ, List.getElem_cons_zero]
            refine wpAnyH_take (i := 41) (v := ?_) rfl (by kernel_rfl) (by kernel_rfl) (by kernel_rfl) (fun _ _ _ h => h) (Or.inl ⟨by rfl, ?_⟩) (by assumption) ?_
            rotate_left
            · intro W hSw; (try dsimp only at hSw); have o0 := (bk_cell hSw 0).trans rfl; have o1 := (bk_cell hSw 1).trans rfl; have o2 := (bk_cell hSw 2).trans rfl; have o3 := (bk_cell hSw 3).trans rfl; (try simp only [List.getElem_toArray, List.getElem_cons_succ, List.getElem_cons_zero]); go_simp; try with_reducible rfl
            try simp only [Act.put, List.setIfInBounds_toArray, List.set_cons_zero, List.set_cons_succ, List.getElem_toArray, List.getElem_cons_succ, List.getElem_cons_zero]
            refine wpAnyH_take (i := 43) (v := ?_) rfl (by kernel_rfl) (by kernel_rfl) (by kernel_rfl) (fun _ _ _ h => h) (Or.inl ⟨by rfl, ?_⟩) (by assumption) ?_
            rotate_left
            · intro W hSw; (try dsimp only at hSw); have o0 := (bk_cell hSw 0).trans rfl; have o1 := (bk_cell hSw 1).trans rfl; have o2 := (bk_cell hSw 2).trans rfl; have o3 := (bk_cell hSw 3).trans rfl; (try simp only [List.getElem_toArray, List.getElem_cons_succ, List.getElem_cons_zero]); go_simp; try with_reducible rfl
            try simp only [Act.put, List.setIfInBounds_toArray, List.set_cons_zero, List.set_cons_succ, List.getElem_toArray, List.getElem_cons_succ, List.getElem_cons_zero]
            have hp11 := hp10.below hb11
            refine wpAnyH_ready (rs := [42]) (by kernel_rfl) (by simp) ?_
            refine AllReadyH.cons rfl (fun KK hK => ?_) AllReadyH.nil
            try simp only [List.getElem_toArray, List.getElem_cons_succ, List.getElem_cons_zero]
            go_simp
            go_at_call 28
            refine (show Calls Try.prog 28 #[.pointer (some ⟨K.X, 0, none⟩), .int .i64 ch] w11 fun e W' => e = .returned (.int .i64 0) ∧ Below w11.heap.size w11 W' from by rw [← HWV.out]; exact sys_words ch hp11.s).mono ?_
            rintro e w13 ⟨rfl, hb13⟩
            (try go_wp2_with fail)
            refine hK.out _ _ ?_ (fun hHeld => ?_)
            · exact bk_below hob7 (bstep (bstep (bstep hb79 hb10) hb11) hb13)
            clear hK KK
            try simp only [Act.put, List.setIfInBounds_toArray, List.set_cons_zero, List.set_cons_succ, List.getElem_toArray, List.getElem_cons_succ, List.getElem_cons_zero]
            refine wpAnyH_take (i := 44) (v := ?_) rfl (by kernel_rfl) (by kernel_rfl) (by kernel_rfl) (fun _ _ _ h => h) (Or.inl ⟨by rfl, ?_⟩) (by assumption) ?_
            rotate_left
            · intro W hSw; (try dsimp only at hSw); (try simp only [List.getElem_toArray, List.getElem_cons_succ, List.getElem_cons_zero]); go_simp; try with_reducible rfl
            try simp only [Act.put, List.setIfInBounds_toArray, List.set_cons_zero, List.set_cons_succ, List.getElem_toArray, List.getElem_cons_succ, List.getElem_cons_zero]
            refine wpAnyH_take (i := 45) (v := ?_) rfl (by kernel_rfl) (by kernel_rfl) (by kernel_rfl) (fun _ _ _ h => h) (Or.inl ⟨by rfl, ?_⟩) (by assumption) ?_
            rotate_left
            · intro W hSw; (try dsimp only at hSw); (try simp only [List.getElem_toArray, List.getElem_cons_succ, List.getElem_cons_zero]); go_simp; try with_reducible rfl
            try simp only [Act.put, List.setIfInBounds_toArray, List.set_cons_zero, List.set_cons_succ, List.getElem_toArray, List.getElem_cons_succ, List.getElem_cons_zero]
            refine wpAnyH_done (by kernel_rfl) ?_ _
            have hb7e := bstep (bstep (bstep hb79 hb10) hb11) hb13
            have hBB : Below w1.heap.size wr w13 := ((((bdrew HAL.out).mono (by omega)).trans hb7)).trans (hb7e.mono (Nat.le_of_lt hp7.s.size))
            have HBZ := Lib.hid (HBr.out.trans (hBB.mono (Nat.le_of_lt hw1)))
            have HVZ := Lib.hid (HVr.out.keep HI.out hBB hw1 HBZ.out)
            have HPZ := Lib.hid (hp7.below hb7e)
            clear hb7e hBB hp7 hp8 hp9 hp10 hp11 hb7 hk7 hob7 hd7 hy7 hy9 hb8 hb9 hb79 hb10 hb11 hb13 hHeld
            go_wp2_with fail
            exact ⟨⟨k + 1, by omega, by go_num, HBZ.out, HVZ.out, LL', HPZ.out⟩, by simp [intOf]; omega⟩
          · skip
            try simp only [List.getElem_toArray, List.getElem_cons_succ, List.getElem_cons_zero]
            go_simp
            refine hK.out _ _ ?_ (fun hHeld => ?_)
            · exact bk_below hob7 hb79
            clear hK KK
            try simp only [Act.put, List.setIfInBounds_toArray, List.set_cons_zero, List.set_cons_succ, List.getElem_toArray, List.getElem_cons_succ, List.getElem_cons_zero]
            refine wpAnyH_ready (rs := [31]) (by kernel_rfl) (by simp) ?_
            refine AllReadyH.cons rfl (fun KK hK => ?_) AllReadyH.nil
            try simp only [List.getElem_toArray, List.getElem_cons_succ, List.getElem_cons_zero]
            go_simp
            go_at_call 20
            refine (sys_room ch hp9.s).mono ?_
            rintro e w10 ⟨rfl, hb10⟩
            (try go_wp2_with fail)
            refine hK.out _ _ ?_ (fun hHeld => ?_)
            · exact bk_below hob7 (bstep hb79 hb10)
            clear hK KK
            try simp only [Act.put, List.setIfInBounds_toArray, List.set_cons_zero, List.set_cons_succ, List.getElem_toArray, List.getElem_cons_succ, List.getElem_cons_zero]
            have hp10 := hp9.below hb10
            refine wpAnyH_ready (rs := [35]) (by kernel_rfl) (by simp) ?_
            refine AllReadyH.cons rfl (fun KK hK => ?_) AllReadyH.nil
            try simp only [List.getElem_toArray, List.getElem_cons_succ, List.getElem_cons_zero]
            go_simp
            go_at_call 27
            refine (rroom_any pC cC ch (hy9.below hb10) hp10.c hok).mono ?_
            rintro e w11 ⟨rfl, hb11⟩
            (try go_wp2_with fail)
            refine hK.out _ _ ?_ (fun hHeld => ?_)
            · exact bk_below hob7 (bstep (bstep hb79 hb10) hb11)
            clear hK KK
            try simp only [Act.put, List.setIfInBounds_toArray, List.set_cons_zero, List.set_cons_succ, List.getElem_toArray, List.getElem_cons_succ, List.getElem_cons_zero]
            have xR : (roomE C LL' ch == roomE C LL' ch) = true := by simp
            refine wpAnyH_take (i := 36) (v := ?_) rfl (by kernel_rfl) (by kernel_rfl) (by kernel_rfl) (fun _ _ _ h => h) (Or.inl ⟨by rfl, ?_⟩) (by assumption) ?_
            rotate_left
            · intro W hSw; (try dsimp only at hSw); have o0 := (bk_cell hSw 0).trans rfl; have o1 := (bk_cell hSw 1).trans rfl; have o2 := (bk_cell hSw 2).trans rfl; have o3 := (bk_cell hSw 3).trans rfl; (try simp only [List.getElem_toArray, List.getElem_cons_succ, List.getElem_cons_zero]); go_simp; try with_reducible rfl
            try simp only [Act.put, List.setIfInBounds_toArray, List.set_cons_zero, List.set_cons_succ, List.getElem_toArray, List.getElem_cons_succ, List.getElem_cons_zero]
            refine wpAnyH_take (i := 37) (v := ?_) rfl (by kernel_rfl) (by kernel_rfl) (by kernel_rfl) (fun _ _ _ h => h) (Or.inl ⟨by rfl, ?_⟩) (by assumption) ?_
            rotate_left
            · intro W hSw; (try dsimp only at hSw); have o0 := (bk_cell hSw 0).trans rfl; have o1 := (bk_cell hSw 1).trans rfl; have o2 := (bk_cell hSw 2).trans rfl; have o3 := (bk_cell hSw 3).trans rfl; (try simp only [List.getElem_toArray, List.getElem_cons_succ, List.getElem_cons_zero]); go_simp; try with_reducible rfl
            try simp only [Act.put, List.setIfInBounds_toArray, List.set_cons_zero, List.set_cons_succ, List.getElem_toArray, List.getElem_cons_succ, List.getElem_cons_zero]
            refine wpAnyH_take (i := 38) (v := ?_) rfl (by kernel_rfl) (by kernel_rfl) (by kernel_rfl) (fun _ _ _ h => h) (Or.inl ⟨by rfl, ?_⟩) (by assumption) ?_
            rotate_left
            · intro W hSw; (try dsimp only at hSw); have o0 := (bk_cell hSw 0).trans rfl; have o1 := (bk_cell hSw 1).trans rfl; have o2 := (bk_cell hSw 2).trans rfl; have o3 := (bk_cell hSw 3).trans rfl; (try simp only [List.getElem_toArray, List.getElem_cons_succ, List.getElem_cons_zero]); go_simp; try with_reducible rfl
            try simp only [Act.put, List.setIfInBounds_toArray, List.set_cons_zero, List.set_cons_succ, List.getElem_toArray, List.getElem_cons_succ, List.getElem_cons_zero]
            refine wpAnyH_take (i := 39) (v := ?_) rfl (by kernel_rfl) (by kernel_rfl) (by kernel_rfl) (fun _ _ _ h => h) (Or.inl ⟨by rfl, ?_⟩) (by assumption) ?_
            rotate_left
            · intro W hSw; (try dsimp only at hSw); have o0 := (bk_cell hSw 0).trans rfl; have o1 := (bk_cell hSw 1).trans rfl; have o2 := (bk_cell hSw 2).trans rfl; have o3 := (bk_cell hSw 3).trans rfl; (try simp only [List.getElem_toArray, List.getElem_cons_succ, List.getElem_cons_zero]); go_simp; try with_reducible rfl
            try simp only [Act.put, List.setIfInBounds_toArray, List.set_cons_zero, List.set_cons_succ, List.getElem_toArray, List.getElem_cons_succ, List.getElem_cons_zero]
            refine wpAnyH_take (i := 40) (v := ?_) rfl (by kernel_rfl) (by kernel_rfl) (by kernel_rfl) (fun _ _ _ h => h) (Or.inl ⟨by rfl, ?_⟩) (by assumption) ?_
            rotate_left
            · intro W hSw; (try dsimp only at hSw); have o0 := (bk_cell hSw 0).trans rfl; have o1 := (bk_cell hSw 1).trans rfl; have o2 := (bk_cell hSw 2).trans rfl; have o3 := (bk_cell hSw 3).trans rfl; (try simp only [List.getElem_toArray, List.getElem_cons_succ, List.getElem_cons_zero]); go_simp; try with_reducible rfl
            try simp only [Act.put, List.setIfInBounds_toArray, List.set_cons_zero, List.set_cons_succ, List.getElem_toArray, List.getElem_cons_succ, List.getElem_cons_zero]
            refine wpAnyH_take (i := 41) (v := ?_) rfl (by kernel_rfl) (by kernel_rfl) (by kernel_rfl) (fun _ _ _ h => h) (Or.inl ⟨by rfl, ?_⟩) (by assumption) ?_
            rotate_left
            · intro W hSw; (try dsimp only at hSw); have o0 := (bk_cell hSw 0).trans rfl; have o1 := (bk_cell hSw 1).trans rfl; have o2 := (bk_cell hSw 2).trans rfl; have o3 := (bk_cell hSw 3).trans rfl; (try simp only [List.getElem_toArray, List.getElem_cons_succ, List.getElem_cons_zero]); go_simp; try with_reducible rfl
            try simp only [Act.put, List.setIfInBounds_toArray, List.set_cons_zero, List.set_cons_succ, List.getElem_toArray, List.getElem_cons_succ, List.getElem_cons_zero]
            refine wpAnyH_take (i := 43) (v := ?_) rfl (by kernel_rfl) (by kernel_rfl) (by kernel_rfl) (fun _ _ _ h => h) (Or.inl ⟨by rfl, ?_⟩) (by assumption) ?_
            rotate_left
            · intro W hSw; (try dsimp only at hSw); have o0 := (bk_cell hSw 0).trans rfl; have o1 := (bk_cell hSw 1).trans rfl; have o2 := (bk_cell hSw 2).trans rfl; have o3 := (bk_cell hSw 3).trans rfl; (try simp only [List.getElem_toArray, List.getElem_cons_succ, List.getElem_cons_zero]); go_simp; try with_reducible rfl
            try simp only [Act.put, List.setIfInBounds_toArray, List.set_cons_zero, List.set_cons_succ, List.getElem_toArray, List.getElem_cons_succ, List.getElem_cons_zero]
            have hp11 := hp10.below hb11
            refine wpAnyH_ready (rs := [42]) (by kernel_rfl) (by simp) ?_
            refine AllReadyH.cons rfl (fun KK hK => ?_) AllReadyH.nil
            try simp only [List.getElem_toArray, List.getElem_cons_succ, List.getElem_cons_zero]
            go_simp
            go_at_call 28
            refine (show Calls Try.prog 28 #[.pointer (some ⟨K.X, 0, none⟩), .int .i64 ch] w11 fun e W' => e = .returned (.int .i64 0) ∧ Below w11.heap.size w11 W' from by rw [← HWV.out]; exact sys_words ch hp11.s).mono ?_
            rintro e w13 ⟨rfl, hb13⟩
            (try go_wp2_with fail)
            refine hK.out _ _ ?_ (fun hHeld => ?_)
            · exact bk_below hob7 (bstep (bstep (bstep hb79 hb10) hb11) hb13)
            clear hK KK
            try simp only [Act.put, List.setIfInBounds_toArray, List.set_cons_zero, List.set_cons_succ, List.getElem_toArray, List.getElem_cons_succ, List.getElem_cons_zero]
            refine wpAnyH_take (i := 44) (v := ?_) rfl (by kernel_rfl) (by kernel_rfl) (by kernel_rfl) (fun _ _ _ h => h) (Or.inl ⟨by rfl, ?_⟩) (by assumption) ?_
            rotate_left
            · intro W hSw; (try dsimp only at hSw); (try simp only [List.getElem_toArray, List.getElem_cons_succ, List.getElem_cons_zero]); go_simp; try with_reducible rfl
            try simp only [Act.put, List.setIfInBounds_toArray, List.set_cons_zero, List.set_cons_succ, List.getElem_toArray, List.getElem_cons_succ, List.getElem_cons_zero]
            refine wpAnyH_take (i := 45) (v := ?_) rfl (by kernel_rfl) (by kernel_rfl) (by kernel_rfl) (fun _ _ _ h => h) (Or.inl ⟨by rfl, ?_⟩) (by assumption) ?_
            rotate_left
            · intro W hSw; (try dsimp only at hSw); (try simp only [List.getElem_toArray, List.getElem_cons_succ, List.getElem_cons_zero]); go_simp; try with_reducible rfl
            try simp only [Act.put, List.setIfInBounds_toArray, List.set_cons_zero, List.set_cons_succ, List.getElem_toArray, List.getElem_cons_succ, List.getElem_cons_zero]
            refine wpAnyH_done (by kernel_rfl) ?_ _
            have hb7e := bstep (bstep (bstep hb79 hb10) hb11) hb13
            have hBB : Below w1.heap.size wr w13 := ((((bdrew HAL.out).mono (by omega)).trans hb7)).trans (hb7e.mono (Nat.le_of_lt hp7.s.size))
            have HBZ := Lib.hid (HBr.out.trans (hBB.mono (Nat.le_of_lt hw1)))
            have HVZ := Lib.hid (HVr.out.keep HI.out hBB hw1 HBZ.out)
            have HPZ := Lib.hid (hp7.below hb7e)
            clear hb7e hBB hp7 hp8 hp9 hp10 hp11 hb7 hk7 hob7 hd7 hy7 hy9 hb8 hb9 hb79 hb10 hb11 hb13 hHeld
            go_wp2_with fail
            exact ⟨⟨k + 1, by omega, by go_num, HBZ.out, HVZ.out, LL', HPZ.out⟩, by simp [intOf]; omega⟩
        · skip
          try simp only [List.getElem_toArray, List.getElem_cons_succ, List.getElem_cons_zero]
          go_simp
          refine hK.out _ _ ?_ (fun hHeld => ?_)
          · exact hob7
          clear hK KK
          try simp only [Act.put, List.setIfInBounds_toArray, List.set_cons_zero, List.set_cons_succ, List.getElem_toArray, List.getElem_cons_succ, List.getElem_cons_zero]
          refine wpAnyH_ready (rs := [14]) (by kernel_rfl) (by simp) ?_
          refine AllReadyH.cons rfl (fun KK hK => ?_) AllReadyH.nil
          try simp only [List.getElem_toArray, List.getElem_cons_succ, List.getElem_cons_zero]
          go_simp
          go_at_call 25
          refine (show Calls Try.prog 25 #[.pointer (some ⟨K.X, 0, none⟩), .int .i64 pt, .int .i64 ch, .bool (d.tmod 2 == 1)] w7 fun e W' => e = .returned (.int .i64 E1) ∧ Below w7.heap.size w7 W' from by rw [HF.out]; exact sys_may pt ch _ hp7.s).mono ?_
          rintro e w8 ⟨rfl, hb8⟩
          (try go_wp2_with fail)
          refine hK.out _ _ ?_ (fun hHeld => ?_)
          · exact bk_below hob7 hb8
          clear hK KK
          try simp only [Act.put, List.setIfInBounds_toArray, List.set_cons_zero, List.set_cons_succ, List.getElem_toArray, List.getElem_cons_succ, List.getElem_cons_zero]
          have g0' := keepc hb8 g0
          have g1' := keepc hb8 g1
          have hp8 := hp7.below hb8
          refine wpAnyH_ready (rs := [24]) (by kernel_rfl) (by simp) ?_
          refine AllReadyH.cons rfl (fun KK hK => ?_) AllReadyH.nil
          try simp only [List.getElem_toArray, List.getElem_cons_succ, List.getElem_cons_zero]
          go_simp
          go_at_call 26
          refine (show Calls Try.prog 26 #[.agg #[.slice pC C.nC cC, .slice vp C.nC vcap], .int .i64 pt, .int .i64 ch, .bool (d.tmod 2 == 1)] w8 fun e W' => e = .returned (.int .i64 E1) ∧ Below w8.heap.size w8 W' from by rw [HF.out]; exact rmay_any C pC vp cC C.nC vcap pt ch _ w8 hp8.c hn16).mono ?_
          rintro e w9 ⟨rfl, hb9⟩
          (try go_wp2_with fail)
          refine hK.out _ _ ?_ (fun hHeld => ?_)
          · exact bk_below hob7 (bstep hb8 hb9)
          clear hK KK
          try simp only [Act.put, List.setIfInBounds_toArray, List.set_cons_zero, List.set_cons_succ, List.getElem_toArray, List.getElem_cons_succ, List.getElem_cons_zero]
          refine wpAnyH_take (i := 25) (v := ?_) rfl (by kernel_rfl) (by kernel_rfl) (by kernel_rfl) (fun _ _ _ h => h) (Or.inl ⟨by rfl, ?_⟩) (by assumption) ?_
          rotate_left
          · intro W hSw; (try dsimp only at hSw); have o0 := (bk_cell hSw 0).trans rfl; have o1 := (bk_cell hSw 1).trans rfl; have o2 := (bk_cell hSw 2).trans rfl; have o3 := (bk_cell hSw 3).trans rfl; (try simp only [List.getElem_toArray, List.getElem_cons_succ, List.getElem_cons_zero]); go_simp; try with_reducible rfl
          try simp only [Act.put, List.setIfInBounds_toArray, List.set_cons_zero, List.set_cons_succ, List.getElem_toArray, List.getElem_cons_succ, List.getElem_cons_zero]
          refine wpAnyH_take (i := 26) (v := ?_) rfl (by kernel_rfl) (by kernel_rfl) (by kernel_rfl) (fun _ _ _ h => h) (Or.inl ⟨by rfl, ?_⟩) (by assumption) ?_
          rotate_left
          · intro W hSw; (try dsimp only at hSw); have o0 := (bk_cell hSw 0).trans rfl; have o1 := (bk_cell hSw 1).trans rfl; have o2 := (bk_cell hSw 2).trans rfl; have o3 := (bk_cell hSw 3).trans rfl; (try simp only [List.getElem_toArray, List.getElem_cons_succ, List.getElem_cons_zero]); go_simp; try with_reducible rfl
          try simp only [Act.put, List.setIfInBounds_toArray, List.set_cons_zero, List.set_cons_succ, List.getElem_toArray, List.getElem_cons_succ, List.getElem_cons_zero]
          refine wpAnyH_take (i := 27) (v := ?_) rfl (by kernel_rfl) (by kernel_rfl) (by kernel_rfl) (fun _ _ _ h => h) (Or.inl ⟨by rfl, ?_⟩) (by assumption) ?_
          rotate_left
          · intro W hSw; (try dsimp only at hSw); have o0 := (bk_cell hSw 0).trans rfl; have o1 := (bk_cell hSw 1).trans rfl; have o2 := (bk_cell hSw 2).trans rfl; have o3 := (bk_cell hSw 3).trans rfl; (try simp only [List.getElem_toArray, List.getElem_cons_succ, List.getElem_cons_zero]); go_simp; try with_reducible rfl
          try simp only [Act.put, List.setIfInBounds_toArray, List.set_cons_zero, List.set_cons_succ, List.getElem_toArray, List.getElem_cons_succ, List.getElem_cons_zero]
          refine wpAnyH_take (i := 28) (v := ?_) rfl (by kernel_rfl) (by kernel_rfl) (by kernel_rfl) (fun _ _ _ h => h) (Or.inl ⟨by rfl, ?_⟩) (by assumption) ?_
          rotate_left
          · intro W hSw; (try dsimp only at hSw); have o0 := (bk_cell hSw 0).trans rfl; have o1 := (bk_cell hSw 1).trans rfl; have o2 := (bk_cell hSw 2).trans rfl; have o3 := (bk_cell hSw 3).trans rfl; (try simp only [List.getElem_toArray, List.getElem_cons_succ, List.getElem_cons_zero]); go_simp; try with_reducible rfl
          try simp only [Act.put, List.setIfInBounds_toArray, List.set_cons_zero, List.set_cons_succ, List.getElem_toArray, List.getElem_cons_succ, List.getElem_cons_zero]
          refine wpAnyH_take (i := 29) (v := ?_) rfl (by kernel_rfl) (by kernel_rfl) (by kernel_rfl) (fun _ _ _ h => h) (Or.inl ⟨by rfl, ?_⟩) (by assumption) ?_
          rotate_left
          · intro W hSw; (try dsimp only at hSw); have o0 := (bk_cell hSw 0).trans rfl; have o1 := (bk_cell hSw 1).trans rfl; have o2 := (bk_cell hSw 2).trans rfl; have o3 := (bk_cell hSw 3).trans rfl; (try simp only [List.getElem_toArray, List.getElem_cons_succ, List.getElem_cons_zero]); go_simp; try with_reducible rfl
          try simp only [Act.put, List.setIfInBounds_toArray, List.set_cons_zero, List.set_cons_succ, List.getElem_toArray, List.getElem_cons_succ, List.getElem_cons_zero]
          refine wpAnyH_take (i := 30) (v := ?_) rfl (by kernel_rfl) (by kernel_rfl) (by kernel_rfl) (fun _ _ _ h => h) (Or.inl ⟨by rfl, ?_⟩) (by assumption) ?_
          rotate_left
          · intro W hSw; (try dsimp only at hSw); have o0 := (bk_cell hSw 0).trans rfl; have o1 := (bk_cell hSw 1).trans rfl; have o2 := (bk_cell hSw 2).trans rfl; have o3 := (bk_cell hSw 3).trans rfl; (try simp only [List.getElem_toArray, List.getElem_cons_succ, List.getElem_cons_zero]); go_simp; try with_reducible rfl
          try simp only [Act.put, List.setIfInBounds_toArray, List.set_cons_zero, List.set_cons_succ, List.getElem_toArray, List.getElem_cons_succ, List.getElem_cons_zero]
          refine wpAnyH_take (i := 33) (v := ?_) rfl (by kernel_rfl) (by kernel_rfl) (by kernel_rfl) (fun _ _ _ h => h) (Or.inl ⟨by rfl, ?_⟩) (by assumption) ?_
          rotate_left
          · intro W hSw; (try dsimp only at hSw); have o0 := (bk_cell hSw 0).trans rfl; have o1 := (bk_cell hSw 1).trans rfl; have o2 := (bk_cell hSw 2).trans rfl; have o3 := (bk_cell hSw 3).trans rfl; (try simp only [List.getElem_toArray, List.getElem_cons_succ, List.getElem_cons_zero]); go_simp; try with_reducible rfl
          try simp only [Act.put, List.setIfInBounds_toArray, List.set_cons_zero, List.set_cons_succ, List.getElem_toArray, List.getElem_cons_succ, List.getElem_cons_zero]
          refine wpAnyH_take (i := 34) (v := ?_) rfl (by kernel_rfl) (by kernel_rfl) (by kernel_rfl) (fun _ _ _ h => h) (Or.inl ⟨by rfl, ?_⟩) (by assumption) ?_
          rotate_left
          · intro W hSw; (try dsimp only at hSw); have o0 := (bk_cell hSw 0).trans rfl; have o1 := (bk_cell hSw 1).trans rfl; have o2 := (bk_cell hSw 2).trans rfl; have o3 := (bk_cell hSw 3).trans rfl; (try simp only [List.getElem_toArray, List.getElem_cons_succ, List.getElem_cons_zero]); go_simp; try with_reducible rfl
          try simp only [Act.put, List.setIfInBounds_toArray, List.set_cons_zero, List.set_cons_succ, List.getElem_toArray, List.getElem_cons_succ, List.getElem_cons_zero]
          have hp9 := hp8.below hb9
          have hb79 := bstep hb8 hb9
          have e0 := keepc hb79 g0
          have e1 := keepc hb79 g1
          have hy9 := hy7.below hb79
          refine wpAnyH_ready (rs := [31, 32]) (by kernel_rfl) (by simp) ?_
          refine AllReadyH.cons rfl (fun KK hK => ?_) (AllReadyH.cons rfl (fun KK hK => ?_) AllReadyH.nil)
          · skip
            try simp only [List.getElem_toArray, List.getElem_cons_succ, List.getElem_cons_zero]
            go_simp
            go_at_call 20
            refine (sys_room ch hp9.s).mono ?_
            rintro e w10 ⟨rfl, hb10⟩
            (try go_wp2_with fail)
            refine hK.out _ _ ?_ (fun hHeld => ?_)
            · exact bk_below hob7 (bstep hb79 hb10)
            clear hK KK
            try simp only [Act.put, List.setIfInBounds_toArray, List.set_cons_zero, List.set_cons_succ, List.getElem_toArray, List.getElem_cons_succ, List.getElem_cons_zero]
            have e0' := keepc hb10 e0
            have e1' := keepc hb10 e1
            refine wpAnyH_ready (rs := [32]) (by kernel_rfl) (by simp) ?_
            refine AllReadyH.cons rfl (fun KK hK => ?_) AllReadyH.nil
            try simp only [List.getElem_toArray, List.getElem_cons_succ, List.getElem_cons_zero]
            go_simp
            refine hK.out _ _ ?_ (fun hHeld => ?_)
            · exact bk_below hob7 (bstep hb79 hb10)
            clear hK KK
            try simp only [Act.put, List.setIfInBounds_toArray, List.set_cons_zero, List.set_cons_succ, List.getElem_toArray, List.getElem_cons_succ, List.getElem_cons_zero]
            have hp10 := hp9.below hb10
            refine wpAnyH_ready (rs := [35]) (by kernel_rfl) (by simp) ?_
            refine AllReadyH.cons rfl (fun KK hK => ?_) AllReadyH.nil
            try simp only [List.getElem_toArray, List.getElem_cons_succ, List.getElem_cons_zero]
            go_simp
            go_at_call 27
            refine (rroom_any pC cC ch (hy9.below hb10) hp10.c hok).mono ?_
            rintro e w11 ⟨rfl, hb11⟩
            (try go_wp2_with fail)
            refine hK.out _ _ ?_ (fun hHeld => ?_)
            · exact bk_below hob7 (bstep (bstep hb79 hb10) hb11)
            clear hK KK
            try simp only [Act.put, List.setIfInBounds_toArray, List.set_cons_zero, List.set_cons_succ, List.getElem_toArray, List.getElem_cons_succ, List.getElem_cons_zero]
            have xR : (roomE C LL' ch == roomE C LL' ch) = true := by simp
            refine wpAnyH_take (i := 36) (v := ?_) rfl (by kernel_rfl) (by kernel_rfl) (by kernel_rfl) (fun _ _ _ h => h) (Or.inl ⟨by rfl, ?_⟩) (by assumption) ?_
            rotate_left
            · intro W hSw; (try dsimp only at hSw); have o0 := (bk_cell hSw 0).trans rfl; have o1 := (bk_cell hSw 1).trans rfl; have o2 := (bk_cell hSw 2).trans rfl; have o3 := (bk_cell hSw 3).trans rfl; (try simp only [List.getElem_toArray, List.getElem_cons_succ, List.getElem_cons_zero]); go_simp; try with_reducible rfl
            try simp only [Act.put, List.setIfInBounds_toArray, List.set_cons_zero, List.set_cons_succ, List.getElem_toArray, List.getElem_cons_succ, List.getElem_cons_zero]
            refine wpAnyH_take (i := 37) (v := ?_) rfl (by kernel_rfl) (by kernel_rfl) (by kernel_rfl) (fun _ _ _ h => h) (Or.inl ⟨by rfl, ?_⟩) (by assumption) ?_
            rotate_left
            · intro W hSw; (try dsimp only at hSw); have o0 := (bk_cell hSw 0).trans rfl; have o1 := (bk_cell hSw 1).trans rfl; have o2 := (bk_cell hSw 2).trans rfl; have o3 := (bk_cell hSw 3).trans rfl; (try simp only [List.getElem_toArray, List.getElem_cons_succ, List.getElem_cons_zero]); go_simp; try with_reducible rfl
            try simp only [Act.put, List.setIfInBounds_toArray, List.set_cons_zero, List.set_cons_succ, List.getElem_toArray, List.getElem_cons_succ, List.getElem_cons_zero]
            refine wpAnyH_take (i := 38) (v := ?_) rfl (by kernel_rfl) (by kernel_rfl) (by kernel_rfl) (fun _ _ _ h => h) (Or.inl ⟨by rfl, ?_⟩) (by assumption) ?_
            rotate_left
            · intro W hSw; (try dsimp only at hSw); have o0 := (bk_cell hSw 0).trans rfl; have o1 := (bk_cell hSw 1).trans rfl; have o2 := (bk_cell hSw 2).trans rfl; have o3 := (bk_cell hSw 3).trans rfl; (try simp only [List.getElem_toArray, List.getElem_cons_succ, List.getElem_cons_zero]); go_simp; try with_reducible rfl
            try simp only [Act.put, List.setIfInBounds_toArray, List.set_cons_zero, List.set_cons_succ, List.getElem_toArray, List.getElem_cons_succ, List.getElem_cons_zero]
            refine wpAnyH_take (i := 39) (v := ?_) rfl (by kernel_rfl) (by kernel_rfl) (by kernel_rfl) (fun _ _ _ h => h) (Or.inl ⟨by rfl, ?_⟩) (by assumption) ?_
            rotate_left
            · intro W hSw; (try dsimp only at hSw); have o0 := (bk_cell hSw 0).trans rfl; have o1 := (bk_cell hSw 1).trans rfl; have o2 := (bk_cell hSw 2).trans rfl; have o3 := (bk_cell hSw 3).trans rfl; (try simp only [List.getElem_toArray, List.getElem_cons_succ, List.getElem_cons_zero]); go_simp; try with_reducible rfl
            try simp only [Act.put, List.setIfInBounds_toArray, List.set_cons_zero, List.set_cons_succ, List.getElem_toArray, List.getElem_cons_succ, List.getElem_cons_zero]
            refine wpAnyH_take (i := 40) (v := ?_) rfl (by kernel_rfl) (by kernel_rfl) (by kernel_rfl) (fun _ _ _ h => h) (Or.inl ⟨by rfl, ?_⟩) (by assumption) ?_
            rotate_left
            · intro W hSw; (try dsimp only at hSw); have o0 := (bk_cell hSw 0).trans rfl; have o1 := (bk_cell hSw 1).trans rfl; have o2 := (bk_cell hSw 2).trans rfl; have o3 := (bk_cell hSw 3).trans rfl; (try simp only [List.getElem_toArray, List.getElem_cons_succ, List.getElem_cons_zero]); go_simp; try with_reducible rfl
            try simp only [Act.put, List.setIfInBounds_toArray, List.set_cons_zero, List.set_cons_succ, List.getElem_toArray, List.getElem_cons_succ, List.getElem_cons_zero]
            refine wpAnyH_take (i := 41) (v := ?_) rfl (by kernel_rfl) (by kernel_rfl) (by kernel_rfl) (fun _ _ _ h => h) (Or.inl ⟨by rfl, ?_⟩) (by assumption) ?_
            rotate_left
            · intro W hSw; (try dsimp only at hSw); have o0 := (bk_cell hSw 0).trans rfl; have o1 := (bk_cell hSw 1).trans rfl; have o2 := (bk_cell hSw 2).trans rfl; have o3 := (bk_cell hSw 3).trans rfl; (try simp only [List.getElem_toArray, List.getElem_cons_succ, List.getElem_cons_zero]); go_simp; try with_reducible rfl
            try simp only [Act.put, List.setIfInBounds_toArray, List.set_cons_zero, List.set_cons_succ, List.getElem_toArray, List.getElem_cons_succ, List.getElem_cons_zero]
            refine wpAnyH_take (i := 43) (v := ?_) rfl (by kernel_rfl) (by kernel_rfl) (by kernel_rfl) (fun _ _ _ h => h) (Or.inl ⟨by rfl, ?_⟩) (by assumption) ?_
            rotate_left
            · intro W hSw; (try dsimp only at hSw); have o0 := (bk_cell hSw 0).trans rfl; have o1 := (bk_cell hSw 1).trans rfl; have o2 := (bk_cell hSw 2).trans rfl; have o3 := (bk_cell hSw 3).trans rfl; (try simp only [List.getElem_toArray, List.getElem_cons_succ, List.getElem_cons_zero]); go_simp; try with_reducible rfl
            try simp only [Act.put, List.setIfInBounds_toArray, List.set_cons_zero, List.set_cons_succ, List.getElem_toArray, List.getElem_cons_succ, List.getElem_cons_zero]
            have hp11 := hp10.below hb11
            refine wpAnyH_ready (rs := [42]) (by kernel_rfl) (by simp) ?_
            refine AllReadyH.cons rfl (fun KK hK => ?_) AllReadyH.nil
            try simp only [List.getElem_toArray, List.getElem_cons_succ, List.getElem_cons_zero]
            go_simp
            go_at_call 28
            refine (show Calls Try.prog 28 #[.pointer (some ⟨K.X, 0, none⟩), .int .i64 ch] w11 fun e W' => e = .returned (.int .i64 0) ∧ Below w11.heap.size w11 W' from by rw [← HWV.out]; exact sys_words ch hp11.s).mono ?_
            rintro e w13 ⟨rfl, hb13⟩
            (try go_wp2_with fail)
            refine hK.out _ _ ?_ (fun hHeld => ?_)
            · exact bk_below hob7 (bstep (bstep (bstep hb79 hb10) hb11) hb13)
            clear hK KK
            try simp only [Act.put, List.setIfInBounds_toArray, List.set_cons_zero, List.set_cons_succ, List.getElem_toArray, List.getElem_cons_succ, List.getElem_cons_zero]
            refine wpAnyH_take (i := 44) (v := ?_) rfl (by kernel_rfl) (by kernel_rfl) (by kernel_rfl) (fun _ _ _ h => h) (Or.inl ⟨by rfl, ?_⟩) (by assumption) ?_
            rotate_left
            · intro W hSw; (try dsimp only at hSw); (try simp only [List.getElem_toArray, List.getElem_cons_succ, List.getElem_cons_zero]); go_simp; try with_reducible rfl
            try simp only [Act.put, List.setIfInBounds_toArray, List.set_cons_zero, List.set_cons_succ, List.getElem_toArray, List.getElem_cons_succ, List.getElem_cons_zero]
            refine wpAnyH_take (i := 45) (v := ?_) rfl (by kernel_rfl) (by kernel_rfl) (by kernel_rfl) (fun _ _ _ h => h) (Or.inl ⟨by rfl, ?_⟩) (by assumption) ?_
            rotate_left
            · intro W hSw; (try dsimp only at hSw); (try simp only [List.getElem_toArray, List.getElem_cons_succ, List.getElem_cons_zero]); go_simp; try with_reducible rfl
            try simp only [Act.put, List.setIfInBounds_toArray, List.set_cons_zero, List.set_cons_succ, List.getElem_toArray, List.getElem_cons_succ, List.getElem_cons_zero]
            refine wpAnyH_done (by kernel_rfl) ?_ _
            have hb7e := bstep (bstep (bstep hb79 hb10) hb11) hb13
            have hBB : Below w1.heap.size wr w13 := ((((bdrew HAL.out).mono (by omega)).trans hb7)).trans (hb7e.mono (Nat.le_of_lt hp7.s.size))
            have HBZ := Lib.hid (HBr.out.trans (hBB.mono (Nat.le_of_lt hw1)))
            have HVZ := Lib.hid (HVr.out.keep HI.out hBB hw1 HBZ.out)
            have HPZ := Lib.hid (hp7.below hb7e)
            clear hb7e hBB hp7 hp8 hp9 hp10 hp11 hb7 hk7 hob7 hd7 hy7 hy9 hb8 hb9 hb79 hb10 hb11 hb13 hHeld
            go_wp2_with fail
            exact ⟨⟨k + 1, by omega, by go_num, HBZ.out, HVZ.out, LL', HPZ.out⟩, by simp [intOf]; omega⟩
          · skip
            try simp only [List.getElem_toArray, List.getElem_cons_succ, List.getElem_cons_zero]
            go_simp
            refine hK.out _ _ ?_ (fun hHeld => ?_)
            · exact bk_below hob7 hb79
            clear hK KK
            try simp only [Act.put, List.setIfInBounds_toArray, List.set_cons_zero, List.set_cons_succ, List.getElem_toArray, List.getElem_cons_succ, List.getElem_cons_zero]
            refine wpAnyH_ready (rs := [31]) (by kernel_rfl) (by simp) ?_
            refine AllReadyH.cons rfl (fun KK hK => ?_) AllReadyH.nil
            try simp only [List.getElem_toArray, List.getElem_cons_succ, List.getElem_cons_zero]
            go_simp
            go_at_call 20
            refine (sys_room ch hp9.s).mono ?_
            rintro e w10 ⟨rfl, hb10⟩
            (try go_wp2_with fail)
            refine hK.out _ _ ?_ (fun hHeld => ?_)
            · exact bk_below hob7 (bstep hb79 hb10)
            clear hK KK
            try simp only [Act.put, List.setIfInBounds_toArray, List.set_cons_zero, List.set_cons_succ, List.getElem_toArray, List.getElem_cons_succ, List.getElem_cons_zero]
            have hp10 := hp9.below hb10
            refine wpAnyH_ready (rs := [35]) (by kernel_rfl) (by simp) ?_
            refine AllReadyH.cons rfl (fun KK hK => ?_) AllReadyH.nil
            try simp only [List.getElem_toArray, List.getElem_cons_succ, List.getElem_cons_zero]
            go_simp
            go_at_call 27
            refine (rroom_any pC cC ch (hy9.below hb10) hp10.c hok).mono ?_
            rintro e w11 ⟨rfl, hb11⟩
            (try go_wp2_with fail)
            refine hK.out _ _ ?_ (fun hHeld => ?_)
            · exact bk_below hob7 (bstep (bstep hb79 hb10) hb11)
            clear hK KK
            try simp only [Act.put, List.setIfInBounds_toArray, List.set_cons_zero, List.set_cons_succ, List.getElem_toArray, List.getElem_cons_succ, List.getElem_cons_zero]
            have xR : (roomE C LL' ch == roomE C LL' ch) = true := by simp
            refine wpAnyH_take (i := 36) (v := ?_) rfl (by kernel_rfl) (by kernel_rfl) (by kernel_rfl) (fun _ _ _ h => h) (Or.inl ⟨by rfl, ?_⟩) (by assumption) ?_
            rotate_left
            · intro W hSw; (try dsimp only at hSw); have o0 := (bk_cell hSw 0).trans rfl; have o1 := (bk_cell hSw 1).trans rfl; have o2 := (bk_cell hSw 2).trans rfl; have o3 := (bk_cell hSw 3).trans rfl; (try simp only [List.getElem_toArray, List.getElem_cons_succ, List.getElem_cons_zero]); go_simp; try with_reducible rfl
            try simp only [Act.put, List.setIfInBounds_toArray, List.set_cons_zero, List.set_cons_succ, List.getElem_toArray, List.getElem_cons_succ, List.getElem_cons_zero]
            refine wpAnyH_take (i := 37) (v := ?_) rfl (by kernel_rfl) (by kernel_rfl) (by kernel_rfl) (fun _ _ _ h => h) (Or.inl ⟨by rfl, ?_⟩) (by assumption) ?_
            rotate_left
            · intro W hSw; (try dsimp only at hSw); have o0 := (bk_cell hSw 0).trans rfl; have o1 := (bk_cell hSw 1).trans rfl; have o2 := (bk_cell hSw 2).trans rfl; have o3 := (bk_cell hSw 3).trans rfl; (try simp only [List.getElem_toArray, List.getElem_cons_succ, List.getElem_cons_zero]); go_simp; try with_reducible rfl
            try simp only [Act.put, List.setIfInBounds_toArray, List.set_cons_zero, List.set_cons_succ, List.getElem_toArray, List.getElem_cons_succ, List.getElem_cons_zero]
            refine wpAnyH_take (i := 38) (v := ?_) rfl (by kernel_rfl) (by kernel_rfl) (by kernel_rfl) (fun _ _ _ h => h) (Or.inl ⟨by rfl, ?_⟩) (by assumption) ?_
            rotate_left
            · intro W hSw; (try dsimp only at hSw); have o0 := (bk_cell hSw 0).trans rfl; have o1 := (bk_cell hSw 1).trans rfl; have o2 := (bk_cell hSw 2).trans rfl; have o3 := (bk_cell hSw 3).trans rfl; (try simp only [List.getElem_toArray, List.getElem_cons_succ, List.getElem_cons_zero]); go_simp; try with_reducible rfl
            try simp only [Act.put, List.setIfInBounds_toArray, List.set_cons_zero, List.set_cons_succ, List.getElem_toArray, List.getElem_cons_succ, List.getElem_cons_zero]
            refine wpAnyH_take (i := 39) (v := ?_) rfl (by kernel_rfl) (by kernel_rfl) (by kernel_rfl) (fun _ _ _ h => h) (Or.inl ⟨by rfl, ?_⟩) (by assumption) ?_
            rotate_left
            · intro W hSw; (try dsimp only at hSw); have o0 := (bk_cell hSw 0).trans rfl; have o1 := (bk_cell hSw 1).trans rfl; have o2 := (bk_cell hSw 2).trans rfl; have o3 := (bk_cell hSw 3).trans rfl; (try simp only [List.getElem_toArray, List.getElem_cons_succ, List.getElem_cons_zero]); go_simp; try with_reducible rfl
            try simp only [Act.put, List.setIfInBounds_toArray, List.set_cons_zero, List.set_cons_succ, List.getElem_toArray, List.getElem_cons_succ, List.getElem_cons_zero]
            refine wpAnyH_take (i := 40) (v := ?_) rfl (by kernel_rfl) (by kernel_rfl) (by kernel_rfl) (fun _ _ _ h => h) (Or.inl ⟨by rfl, ?_⟩) (by assumption) ?_
            rotate_left
            · intro W hSw; (try dsimp only at hSw); have o0 := (bk_cell hSw 0).trans rfl; have o1 := (bk_cell hSw 1).trans rfl; have o2 := (bk_cell hSw 2).trans rfl; have o3 := (bk_cell hSw 3).trans rfl; (try simp only [List.getElem_toArray, List.getElem_cons_succ, List.getElem_cons_zero]); go_simp; try with_reducible rfl
            try simp only [Act.put, List.setIfInBounds_toArray, List.set_cons_zero, List.set_cons_succ, List.getElem_toArray, List.getElem_cons_succ, List.getElem_cons_zero]
            refine wpAnyH_take (i := 41) (v := ?_) rfl (by kernel_rfl) (by kernel_rfl) (by kernel_rfl) (fun _ _ _ h => h) (Or.inl ⟨by rfl, ?_⟩) (by assumption) ?_
            rotate_left
            · intro W hSw; (try dsimp only at hSw); have o0 := (bk_cell hSw 0).trans rfl; have o1 := (bk_cell hSw 1).trans rfl; have o2 := (bk_cell hSw 2).trans rfl; have o3 := (bk_cell hSw 3).trans rfl; (try simp only [List.getElem_toArray, List.getElem_cons_succ, List.getElem_cons_zero]); go_simp; try with_reducible rfl
            try simp only [Act.put, List.setIfInBounds_toArray, List.set_cons_zero, List.set_cons_succ, List.getElem_toArray, List.getElem_cons_succ, List.getElem_cons_zero]
            refine wpAnyH_take (i := 43) (v := ?_) rfl (by kernel_rfl) (by kernel_rfl) (by kernel_rfl) (fun _ _ _ h => h) (Or.inl ⟨by rfl, ?_⟩) (by assumption) ?_
            rotate_left
            · intro W hSw; (try dsimp only at hSw); have o0 := (bk_cell hSw 0).trans rfl; have o1 := (bk_cell hSw 1).trans rfl; have o2 := (bk_cell hSw 2).trans rfl; have o3 := (bk_cell hSw 3).trans rfl; (try simp only [List.getElem_toArray, List.getElem_cons_succ, List.getElem_cons_zero]); go_simp; try with_reducible rfl
            try simp only [Act.put, List.setIfInBounds_toArray, List.set_cons_zero, List.set_cons_succ, List.getElem_toArray, List.getElem_cons_succ, List.getElem_cons_zero]
            have hp11 := hp10.below hb11
            refine wpAnyH_ready (rs := [42]) (by kernel_rfl) (by simp) ?_
            refine AllReadyH.cons rfl (fun KK hK => ?_) AllReadyH.nil
            try simp only [List.getElem_toArray, List.getElem_cons_succ, List.getElem_cons_zero]
            go_simp
            go_at_call 28
            refine (show Calls Try.prog 28 #[.pointer (some ⟨K.X, 0, none⟩), .int .i64 ch] w11 fun e W' => e = .returned (.int .i64 0) ∧ Below w11.heap.size w11 W' from by rw [← HWV.out]; exact sys_words ch hp11.s).mono ?_
            rintro e w13 ⟨rfl, hb13⟩
            (try go_wp2_with fail)
            refine hK.out _ _ ?_ (fun hHeld => ?_)
            · exact bk_below hob7 (bstep (bstep (bstep hb79 hb10) hb11) hb13)
            clear hK KK
            try simp only [Act.put, List.setIfInBounds_toArray, List.set_cons_zero, List.set_cons_succ, List.getElem_toArray, List.getElem_cons_succ, List.getElem_cons_zero]
            refine wpAnyH_take (i := 44) (v := ?_) rfl (by kernel_rfl) (by kernel_rfl) (by kernel_rfl) (fun _ _ _ h => h) (Or.inl ⟨by rfl, ?_⟩) (by assumption) ?_
            rotate_left
            · intro W hSw; (try dsimp only at hSw); (try simp only [List.getElem_toArray, List.getElem_cons_succ, List.getElem_cons_zero]); go_simp; try with_reducible rfl
            try simp only [Act.put, List.setIfInBounds_toArray, List.set_cons_zero, List.set_cons_succ, List.getElem_toArray, List.getElem_cons_succ, List.getElem_cons_zero]
            refine wpAnyH_take (i := 45) (v := ?_) rfl (by kernel_rfl) (by kernel_rfl) (by kernel_rfl) (fun _ _ _ h => h) (Or.inl ⟨by rfl, ?_⟩) (by assumption) ?_
            rotate_left
            · intro W hSw; (try dsimp only at hSw); (try simp only [List.getElem_toArray, List.getElem_cons_succ, List.getElem_cons_zero]); go_simp; try with_reducible rfl
            try simp only [Act.put, List.setIfInBounds_toArray, List.set_cons_zero, List.set_cons_succ, List.getElem_toArray, List.getElem_cons_succ, List.getElem_cons_zero]
            refine wpAnyH_done (by kernel_rfl) ?_ _
            have hb7e := bstep (bstep (bstep hb79 hb10) hb11) hb13
            have hBB : Below w1.heap.size wr w13 := ((((bdrew HAL.out).mono (by omega)).trans hb7)).trans (hb7e.mono (Nat.le_of_lt hp7.s.size))
            have HBZ := Lib.hid (HBr.out.trans (hBB.mono (Nat.le_of_lt hw1)))
            have HVZ := Lib.hid (HVr.out.keep HI.out hBB hw1 HBZ.out)
            have HPZ := Lib.hid (hp7.below hb7e)
            clear hb7e hBB hp7 hp8 hp9 hp10 hp11 hb7 hk7 hob7 hd7 hy7 hy9 hb8 hb9 hb79 hb10 hb11 hb13 hHeld
            go_wp2_with fail
            exact ⟨⟨k + 1, by omega, by go_num, HBZ.out, HVZ.out, LL', HPZ.out⟩, by simp [intOf]; omega⟩
      · have q1 : decide ((0 : Int) ≤ ch) = true := decide_eq_true (by omega)
        have q2 : decide (ch < (C.nC : Int)) = true := decide_eq_true (by omega)
        obtain ⟨i, rfl⟩ : ∃ i : Nat, ch = i := ⟨ch.toNat, by omega⟩
        have hi : i < C.nC := by omega
        have HWV := Lib.hid (show wordsE C (i : Int) = C.cw i from by unfold wordsE; rw [if_neg (by omega), Int.toNat_natCast])
        have q3 : (i : Int) < C.nC := by omega
        have q4 : (0 : Int) ≤ (i : Int) := by omega
        have xW : (C.cw i == C.cw i) = true := by simp
        obtain ⟨b9, o9, e9, hc9⟩ : ∃ b9 o9, pC = some ⟨b9, o9, none⟩ ∧ (wr.alloc (.cells #[.int .i64 d, .int .i64 pt, .int .i64 (i : Int), .slice q xs.length cp] 43)).cell? ⟨b9, o9 + i * 4 + 3, none⟩ = some (.int .i64 (C.cw i)) := by
          rcases HCa.out with h0 | ⟨b9, o9, e9, hc⟩
          · omega
          · exact ⟨b9, o9, e9, (hc i hi).2.2.2⟩
        have h9l := block_lt_of_cell hc9
        subst e9
        go_wp2_with fail
        refine wp_region_held_drew (S := (fun W' => W'.heap[wr.heap.size]? = some (.cells #[.int .i64 d, .int .i64 pt, .int .i64 (i : Int), .slice q xs.length cp] 43 (0, 0)))) (by kernel_rfl) ?_ (fun hHeld => ?_)
        · exact HOB.out
        refine wpAnyH_take (i := 0) (v := ?_) rfl (by kernel_rfl) (by kernel_rfl) (by kernel_rfl) (fun _ _ _ h => h) (Or.inl ⟨by rfl, ?_⟩) (by assumption) ?_
        rotate_left
        · intro W hSw; (try dsimp only at hSw); have o0 := (bk_cell hSw 0).trans rfl; have o1 := (bk_cell hSw 1).trans rfl; have o2 := (bk_cell hSw 2).trans rfl; have o3 := (bk_cell hSw 3).trans rfl; (try simp only [List.getElem_toArray, List.getElem_cons_succ, List.getElem_cons_zero]); go_simp; try with_reducible rfl
        try simp only [Act.put, List.setIfInBounds_toArray, List.set_cons_zero, List.set_cons_succ, List.getElem_toArray, List.getElem_cons_succ, List.getElem_cons_zero]
        refine wpAnyH_take (i := 1) (v := ?_) rfl (by kernel_rfl) (by kernel_rfl) (by kernel_rfl) (fun _ _ _ h => h) (Or.inl ⟨by rfl, ?_⟩) (by assumption) ?_
        rotate_left
        · intro W hSw; (try dsimp only at hSw); have o0 := (bk_cell hSw 0).trans rfl; have o1 := (bk_cell hSw 1).trans rfl; have o2 := (bk_cell hSw 2).trans rfl; have o3 := (bk_cell hSw 3).trans rfl; (try simp only [List.getElem_toArray, List.getElem_cons_succ, List.getElem_cons_zero]); go_simp; try with_reducible rfl
        try simp only [Act.put, List.setIfInBounds_toArray, List.set_cons_zero, List.set_cons_succ, List.getElem_toArray, List.getElem_cons_succ, List.getElem_cons_zero]
        refine wpAnyH_ready (rs := [2]) (by kernel_rfl) (by simp) ?_
        refine AllReadyH.cons rfl (fun KK hK => ?_) AllReadyH.nil
        try simp only [List.getElem_toArray, List.getElem_cons_succ, List.getElem_cons_zero]
        go_simp
        go_at_call 24
        refine (play_any w1.heap.size w6.heap.size w5.heap.size C K (some ⟨b9, o9, none⟩) cC k LL d pt (i : Int) q xs cp _ (HPr.out.below (bdrew HAL.out)) hok HBF.out hz6 hLg HPL.out (by omega) (HU1.out.below (bdrew HBa.out)) HU2.out HQ.out).mono ?_
        rintro e w7 ⟨rfl, ⟨LL', hp7⟩, hb7, hk7⟩
        have hob7 := hk7 _ _ (show ((wr.alloc (.cells #[.int .i64 d, .int .i64 pt, .int .i64 (i : Int), .slice q xs.length cp] 43)).drew).heap[wr.heap.size]? = some (.cells #[.int .i64 d, .int .i64 pt, .int .i64 (i : Int), .slice q xs.length cp] 43 (0, 0)) from HOB.out) HFX.out.1 HFX.out.2.1 HFX.out.2.2
        (try go_wp2_with fail)
        refine hK.out _ _ ?_ (fun hHeld => ?_)
        · exact hob7
        clear hK KK
        try simp only [Act.put, List.setIfInBounds_toArray, List.set_cons_zero, List.set_cons_succ, List.getElem_toArray, List.getElem_cons_succ, List.getElem_cons_zero]
        obtain ⟨_, vp, vb, vcap, vq, vcp, vout, vV, hd7, hy7⟩ := hp7.r
        have g0 : w7.cell? ⟨w6.heap.size, 0, none⟩ = some (.slice (some ⟨b9, o9, none⟩) C.nC cC) := (bk_cell hd7 0).trans rfl
        have g1 : w7.cell? ⟨w6.heap.size, 1, none⟩ = some (.slice vp C.nC vcap) := (bk_cell hd7 1).trans rfl
        refine wpAnyH_take (i := 3) (v := ?_) rfl (by kernel_rfl) (by kernel_rfl) (by kernel_rfl) (fun _ _ _ h => h) (Or.inl ⟨by rfl, ?_⟩) (by assumption) ?_
        rotate_left
        · intro W hSw; (try dsimp only at hSw); have o0 := (bk_cell hSw 0).trans rfl; have o1 := (bk_cell hSw 1).trans rfl; have o2 := (bk_cell hSw 2).trans rfl; have o3 := (bk_cell hSw 3).trans rfl; (try simp only [List.getElem_toArray, List.getElem_cons_succ, List.getElem_cons_zero]); go_simp; try with_reducible rfl
        try simp only [Act.put, List.setIfInBounds_toArray, List.set_cons_zero, List.set_cons_succ, List.getElem_toArray, List.getElem_cons_succ, List.getElem_cons_zero]
        refine wpAnyH_take (i := 4) (v := ?_) rfl (by kernel_rfl) (by kernel_rfl) (by kernel_rfl) (fun _ _ _ h => h) (Or.inl ⟨by rfl, ?_⟩) (by assumption) ?_
        rotate_left
        · intro W hSw; (try dsimp only at hSw); have o0 := (bk_cell hSw 0).trans rfl; have o1 := (bk_cell hSw 1).trans rfl; have o2 := (bk_cell hSw 2).trans rfl; have o3 := (bk_cell hSw 3).trans rfl; (try simp only [List.getElem_toArray, List.getElem_cons_succ, List.getElem_cons_zero]); go_simp; try with_reducible rfl
        try simp only [Act.put, List.setIfInBounds_toArray, List.set_cons_zero, List.set_cons_succ, List.getElem_toArray, List.getElem_cons_succ, List.getElem_cons_zero]
        refine wpAnyH_take (i := 5) (v := ?_) rfl (by kernel_rfl) (by kernel_rfl) (by kernel_rfl) (fun _ _ _ h => h) (Or.inl ⟨by rfl, ?_⟩) (by assumption) ?_
        rotate_left
        · intro W hSw; (try dsimp only at hSw); have o0 := (bk_cell hSw 0).trans rfl; have o1 := (bk_cell hSw 1).trans rfl; have o2 := (bk_cell hSw 2).trans rfl; have o3 := (bk_cell hSw 3).trans rfl; (try simp only [List.getElem_toArray, List.getElem_cons_succ, List.getElem_cons_zero]); go_simp; try with_reducible rfl
        try simp only [Act.put, List.setIfInBounds_toArray, List.set_cons_zero, List.set_cons_succ, List.getElem_toArray, List.getElem_cons_succ, List.getElem_cons_zero]
        refine wpAnyH_take (i := 6) (v := ?_) rfl (by kernel_rfl) (by kernel_rfl) (by kernel_rfl) (fun _ _ _ h => h) (Or.inl ⟨by rfl, ?_⟩) (by assumption) ?_
        rotate_left
        · intro W hSw; (try dsimp only at hSw); have o0 := (bk_cell hSw 0).trans rfl; have o1 := (bk_cell hSw 1).trans rfl; have o2 := (bk_cell hSw 2).trans rfl; have o3 := (bk_cell hSw 3).trans rfl; (try simp only [List.getElem_toArray, List.getElem_cons_succ, List.getElem_cons_zero]); go_simp; try with_reducible rfl
        try simp only [Act.put, List.setIfInBounds_toArray, List.set_cons_zero, List.set_cons_succ, List.getElem_toArray, List.getElem_cons_succ, List.getElem_cons_zero]
        refine wpAnyH_take (i := 7) (v := ?_) rfl (by kernel_rfl) (by kernel_rfl) (by kernel_rfl) (fun _ _ _ h => h) (Or.inl ⟨by rfl, ?_⟩) (by assumption) ?_
        rotate_left
        · intro W hSw; (try dsimp only at hSw); have o0 := (bk_cell hSw 0).trans rfl; have o1 := (bk_cell hSw 1).trans rfl; have o2 := (bk_cell hSw 2).trans rfl; have o3 := (bk_cell hSw 3).trans rfl; (try simp only [List.getElem_toArray, List.getElem_cons_succ, List.getElem_cons_zero]); go_simp; try with_reducible rfl
        try simp only [Act.put, List.setIfInBounds_toArray, List.set_cons_zero, List.set_cons_succ, List.getElem_toArray, List.getElem_cons_succ, List.getElem_cons_zero]
        refine wpAnyH_take (i := 8) (v := ?_) rfl (by kernel_rfl) (by kernel_rfl) (by kernel_rfl) (fun _ _ _ h => h) (Or.inl ⟨by rfl, ?_⟩) (by assumption) ?_
        rotate_left
        · intro W hSw; (try dsimp only at hSw); have o0 := (bk_cell hSw 0).trans rfl; have o1 := (bk_cell hSw 1).trans rfl; have o2 := (bk_cell hSw 2).trans rfl; have o3 := (bk_cell hSw 3).trans rfl; (try simp only [List.getElem_toArray, List.getElem_cons_succ, List.getElem_cons_zero]); go_simp; try with_reducible rfl
        try simp only [Act.put, List.setIfInBounds_toArray, List.set_cons_zero, List.set_cons_succ, List.getElem_toArray, List.getElem_cons_succ, List.getElem_cons_zero]
        refine wpAnyH_take (i := 9) (v := ?_) rfl (by kernel_rfl) (by kernel_rfl) (by kernel_rfl) (fun _ _ _ h => h) (Or.inl ⟨by rfl, ?_⟩) (by assumption) ?_
        rotate_left
        · intro W hSw; (try dsimp only at hSw); have o0 := (bk_cell hSw 0).trans rfl; have o1 := (bk_cell hSw 1).trans rfl; have o2 := (bk_cell hSw 2).trans rfl; have o3 := (bk_cell hSw 3).trans rfl; (try simp only [List.getElem_toArray, List.getElem_cons_succ, List.getElem_cons_zero]); go_simp; try with_reducible rfl
        try simp only [Act.put, List.setIfInBounds_toArray, List.set_cons_zero, List.set_cons_succ, List.getElem_toArray, List.getElem_cons_succ, List.getElem_cons_zero]
        refine wpAnyH_take (i := 10) (v := ?_) rfl (by kernel_rfl) (by kernel_rfl) (by kernel_rfl) (fun _ _ _ h => h) (Or.inl ⟨by rfl, ?_⟩) (by assumption) ?_
        rotate_left
        · intro W hSw; (try dsimp only at hSw); have o0 := (bk_cell hSw 0).trans rfl; have o1 := (bk_cell hSw 1).trans rfl; have o2 := (bk_cell hSw 2).trans rfl; have o3 := (bk_cell hSw 3).trans rfl; (try simp only [List.getElem_toArray, List.getElem_cons_succ, List.getElem_cons_zero]); go_simp; try with_reducible rfl
        try simp only [Act.put, List.setIfInBounds_toArray, List.set_cons_zero, List.set_cons_succ, List.getElem_toArray, List.getElem_cons_succ, List.getElem_cons_zero]
        refine wpAnyH_take (i := 11) (v := ?_) rfl (by kernel_rfl) (by kernel_rfl) (by kernel_rfl) (fun _ _ _ h => h) (Or.inl ⟨by rfl, ?_⟩) (by assumption) ?_
        rotate_left
        · intro W hSw; (try dsimp only at hSw); have o0 := (bk_cell hSw 0).trans rfl; have o1 := (bk_cell hSw 1).trans rfl; have o2 := (bk_cell hSw 2).trans rfl; have o3 := (bk_cell hSw 3).trans rfl; (try simp only [List.getElem_toArray, List.getElem_cons_succ, List.getElem_cons_zero]); go_simp; try with_reducible rfl
        try simp only [Act.put, List.setIfInBounds_toArray, List.set_cons_zero, List.set_cons_succ, List.getElem_toArray, List.getElem_cons_succ, List.getElem_cons_zero]
        refine wpAnyH_take (i := 12) (v := ?_) rfl (by kernel_rfl) (by kernel_rfl) (by kernel_rfl) (fun _ _ _ h => h) (Or.inl ⟨by rfl, ?_⟩) (by assumption) ?_
        rotate_left
        · intro W hSw; (try dsimp only at hSw); have o0 := (bk_cell hSw 0).trans rfl; have o1 := (bk_cell hSw 1).trans rfl; have o2 := (bk_cell hSw 2).trans rfl; have o3 := (bk_cell hSw 3).trans rfl; (try simp only [List.getElem_toArray, List.getElem_cons_succ, List.getElem_cons_zero]); go_simp; try with_reducible rfl
        try simp only [Act.put, List.setIfInBounds_toArray, List.set_cons_zero, List.set_cons_succ, List.getElem_toArray, List.getElem_cons_succ, List.getElem_cons_zero]
        refine wpAnyH_take (i := 13) (v := ?_) rfl (by kernel_rfl) (by kernel_rfl) (by kernel_rfl) (fun _ _ _ h => h) (Or.inl ⟨by rfl, ?_⟩) (by assumption) ?_
        rotate_left
        · intro W hSw; (try dsimp only at hSw); have o0 := (bk_cell hSw 0).trans rfl; have o1 := (bk_cell hSw 1).trans rfl; have o2 := (bk_cell hSw 2).trans rfl; have o3 := (bk_cell hSw 3).trans rfl; (try simp only [List.getElem_toArray, List.getElem_cons_succ, List.getElem_cons_zero]); go_simp; try with_reducible rfl
        try simp only [Act.put, List.setIfInBounds_toArray, List.set_cons_zero, List.set_cons_succ, List.getElem_toArray, List.getElem_cons_succ, List.getElem_cons_zero]
        refine wpAnyH_take (i := 16) (v := ?_) rfl (by kernel_rfl) (by kernel_rfl) (by kernel_rfl) (fun _ _ _ h => h) (Or.inl ⟨by rfl, ?_⟩) (by assumption) ?_
        rotate_left
        · intro W hSw; (try dsimp only at hSw); have o0 := (bk_cell hSw 0).trans rfl; have o1 := (bk_cell hSw 1).trans rfl; have o2 := (bk_cell hSw 2).trans rfl; have o3 := (bk_cell hSw 3).trans rfl; (try simp only [List.getElem_toArray, List.getElem_cons_succ, List.getElem_cons_zero]); go_simp; try with_reducible rfl
        try simp only [Act.put, List.setIfInBounds_toArray, List.set_cons_zero, List.set_cons_succ, List.getElem_toArray, List.getElem_cons_succ, List.getElem_cons_zero]
        refine wpAnyH_take (i := 17) (v := ?_) rfl (by kernel_rfl) (by kernel_rfl) (by kernel_rfl) (fun _ _ _ h => h) (Or.inl ⟨by rfl, ?_⟩) (by assumption) ?_
        rotate_left
        · intro W hSw; (try dsimp only at hSw); have o0 := (bk_cell hSw 0).trans rfl; have o1 := (bk_cell hSw 1).trans rfl; have o2 := (bk_cell hSw 2).trans rfl; have o3 := (bk_cell hSw 3).trans rfl; (try simp only [List.getElem_toArray, List.getElem_cons_succ, List.getElem_cons_zero]); go_simp; try with_reducible rfl
        try simp only [Act.put, List.setIfInBounds_toArray, List.set_cons_zero, List.set_cons_succ, List.getElem_toArray, List.getElem_cons_succ, List.getElem_cons_zero]
        refine wpAnyH_take (i := 18) (v := ?_) rfl (by kernel_rfl) (by kernel_rfl) (by kernel_rfl) (fun _ _ _ h => h) (Or.inl ⟨by rfl, ?_⟩) (by assumption) ?_
        rotate_left
        · intro W hSw; (try dsimp only at hSw); have o0 := (bk_cell hSw 0).trans rfl; have o1 := (bk_cell hSw 1).trans rfl; have o2 := (bk_cell hSw 2).trans rfl; have o3 := (bk_cell hSw 3).trans rfl; (try simp only [List.getElem_toArray, List.getElem_cons_succ, List.getElem_cons_zero]); go_simp; try with_reducible rfl
        try simp only [Act.put, List.setIfInBounds_toArray, List.set_cons_zero, List.set_cons_succ, List.getElem_toArray, List.getElem_cons_succ, List.getElem_cons_zero]
        refine wpAnyH_take (i := 19) (v := ?_) rfl (by kernel_rfl) (by kernel_rfl) (by kernel_rfl) (fun _ _ _ h => h) (Or.inl ⟨by rfl, ?_⟩) (by assumption) ?_
        rotate_left
        · intro W hSw; (try dsimp only at hSw); have o0 := (bk_cell hSw 0).trans rfl; have o1 := (bk_cell hSw 1).trans rfl; have o2 := (bk_cell hSw 2).trans rfl; have o3 := (bk_cell hSw 3).trans rfl; (try simp only [List.getElem_toArray, List.getElem_cons_succ, List.getElem_cons_zero]); go_simp; try with_reducible rfl
        try simp only [Act.put, List.setIfInBounds_toArray, List.set_cons_zero, List.set_cons_succ, List.getElem_toArray, List.getElem_cons_succ, List.getElem_cons_zero]
        refine wpAnyH_take (i := 20) (v := ?_) rfl (by kernel_rfl) (by kernel_rfl) (by kernel_rfl) (fun _ _ _ h => h) (Or.inl ⟨by rfl, ?_⟩) (by assumption) ?_
        rotate_left
        · intro W hSw; (try dsimp only at hSw); have o0 := (bk_cell hSw 0).trans rfl; have o1 := (bk_cell hSw 1).trans rfl; have o2 := (bk_cell hSw 2).trans rfl; have o3 := (bk_cell hSw 3).trans rfl; (try simp only [List.getElem_toArray, List.getElem_cons_succ, List.getElem_cons_zero]); go_simp; try with_reducible rfl
        try simp only [Act.put, List.setIfInBounds_toArray, List.set_cons_zero, List.set_cons_succ, List.getElem_toArray, List.getElem_cons_succ, List.getElem_cons_zero]
        refine wpAnyH_take (i := 21) (v := ?_) rfl (by kernel_rfl) (by kernel_rfl) (by kernel_rfl) (fun _ _ _ h => h) (Or.inl ⟨by rfl, ?_⟩) (by assumption) ?_
        rotate_left
        · intro W hSw; (try dsimp only at hSw); have o0 := (bk_cell hSw 0).trans rfl; have o1 := (bk_cell hSw 1).trans rfl; have o2 := (bk_cell hSw 2).trans rfl; have o3 := (bk_cell hSw 3).trans rfl; (try simp only [List.getElem_toArray, List.getElem_cons_succ, List.getElem_cons_zero]); go_simp; try with_reducible rfl
        try simp only [Act.put, List.setIfInBounds_toArray, List.set_cons_zero, List.set_cons_succ, List.getElem_toArray, List.getElem_cons_succ, List.getElem_cons_zero]
        refine wpAnyH_take (i := 22) (v := ?_) rfl (by kernel_rfl) (by kernel_rfl) (by kernel_rfl) (fun _ _ _ h => h) (Or.inl ⟨by rfl, ?_⟩) (by assumption) ?_
        rotate_left
        · intro W hSw; (try dsimp only at hSw); have o0 := (bk_cell hSw 0).trans rfl; have o1 := (bk_cell hSw 1).trans rfl; have o2 := (bk_cell hSw 2).trans rfl; have o3 := (bk_cell hSw 3).trans rfl; (try simp only [List.getElem_toArray, List.getElem_cons_succ, List.getElem_cons_zero]); go_simp; try with_reducible rfl
        try simp only [Act.put, List.setIfInBounds_toArray, List.set_cons_zero, List.set_cons_succ, List.getElem_toArray, List.getElem_cons_succ, List.getElem_cons_zero]
        refine wpAnyH_take (i := 23) (v := ?_) rfl (by kernel_rfl) (by kernel_rfl) (by kernel_rfl) (fun _ _ _ h => h) (Or.inl ⟨by rfl, ?_⟩) (by assumption) ?_
        rotate_left
        · intro W hSw; (try dsimp only at hSw); have o0 := (bk_cell hSw 0).trans rfl; have o1 := (bk_cell hSw 1).trans rfl; have o2 := (bk_cell hSw 2).trans rfl; have o3 := (bk_cell hSw 3).trans rfl; (try simp only [List.getElem_toArray, List.getElem_cons_succ, List.getElem_cons_zero]); go_simp; try with_reducible rfl
        try simp only [Act.put, List.setIfInBounds_toArray, List.set_cons_zero, List.set_cons_succ, List.getElem_toArray, List.getElem_cons_succ, List.getElem_cons_zero]
        refine wpAnyH_ready (rs := [14, 15]) (by kernel_rfl) (by simp) ?_
        refine AllReadyH.cons rfl (fun KK hK => ?_) (AllReadyH.cons rfl (fun KK hK => ?_) AllReadyH.nil)
        · skip
          try simp only [List.getElem_toArray, List.getElem_cons_succ, List.getElem_cons_zero]
          go_simp
          go_at_call 25
          refine (show Calls Try.prog 25 #[.pointer (some ⟨K.X, 0, none⟩), .int .i64 pt, .int .i64 (i : Int), .bool (d.tmod 2 == 1)] w7 fun e W' => e = .returned (.int .i64 E1) ∧ Below w7.heap.size w7 W' from by rw [HF.out]; exact sys_may pt (i : Int) _ hp7.s).mono ?_
          rintro e w8 ⟨rfl, hb8⟩
          (try go_wp2_with fail)
          refine hK.out _ _ ?_ (fun hHeld => ?_)
          · exact bk_below hob7 hb8
          clear hK KK
          try simp only [Act.put, List.setIfInBounds_toArray, List.set_cons_zero, List.set_cons_succ, List.getElem_toArray, List.getElem_cons_succ, List.getElem_cons_zero]
          have g0' := keepc hb8 g0
          have g1' := keepc hb8 g1
          refine wpAnyH_ready (rs := [15]) (by kernel_rfl) (by simp) ?_
          refine AllReadyH.cons rfl (fun KK hK => ?_) AllReadyH.nil
          try simp only [List.getElem_toArray, List.getElem_cons_succ, List.getElem_cons_zero]
          go_simp
          refine hK.out _ _ ?_ (fun hHeld => ?_)
          · exact bk_below hob7 hb8
          clear hK KK
          try simp only [Act.put, List.setIfInBounds_toArray, List.set_cons_zero, List.set_cons_succ, List.getElem_toArray, List.getElem_cons_succ, List.getElem_cons_zero]
          have hp8 := hp7.below hb8
          refine wpAnyH_ready (rs := [24]) (by kernel_rfl) (by simp) ?_
          refine AllReadyH.cons rfl (fun KK hK => ?_) AllReadyH.nil
          try simp only [List.getElem_toArray, List.getElem_cons_succ, List.getElem_cons_zero]
          go_simp
          go_at_call 26
          refine (show Calls Try.prog 26 #[.agg #[.slice (some ⟨b9, o9, none⟩) C.nC cC, .slice vp C.nC vcap], .int .i64 pt, .int .i64 (i : Int), .bool (d.tmod 2 == 1)] w8 fun e W' => e = .returned (.int .i64 E1) ∧ Below w8.heap.size w8 W' from by rw [HF.out]; exact rmay_any C (some ⟨b9, o9, none⟩) vp cC C.nC vcap pt (i : Int) _ w8 hp8.c hn16).mono ?_
          rintro e w9 ⟨rfl, hb9⟩
          (try go_wp2_with fail)
          refine hK.out _ _ ?_ (fun hHeld => ?_)
          · exact bk_below hob7 (bstep hb8 hb9)
          clear hK KK
          try simp only [Act.put, List.setIfInBounds_toArray, List.set_cons_zero, List.set_cons_succ, List.getElem_toArray, List.getElem_cons_succ, List.getElem_cons_zero]
          refine wpAnyH_take (i := 25) (v := ?_) rfl (by kernel_rfl) (by kernel_rfl) (by kernel_rfl) (fun _ _ _ h => h) (Or.inl ⟨by rfl, ?_⟩) (by assumption) ?_
          rotate_left
          · intro W hSw; (try dsimp only at hSw); have o0 := (bk_cell hSw 0).trans rfl; have o1 := (bk_cell hSw 1).trans rfl; have o2 := (bk_cell hSw 2).trans rfl; have o3 := (bk_cell hSw 3).trans rfl; (try simp only [List.getElem_toArray, List.getElem_cons_succ, List.getElem_cons_zero]); go_simp; try with_reducible rfl
          try simp only [Act.put, List.setIfInBounds_toArray, List.set_cons_zero, List.set_cons_succ, List.getElem_toArray, List.getElem_cons_succ, List.getElem_cons_zero]
          refine wpAnyH_take (i := 26) (v := ?_) rfl (by kernel_rfl) (by kernel_rfl) (by kernel_rfl) (fun _ _ _ h => h) (Or.inl ⟨by rfl, ?_⟩) (by assumption) ?_
          rotate_left
          · intro W hSw; (try dsimp only at hSw); have o0 := (bk_cell hSw 0).trans rfl; have o1 := (bk_cell hSw 1).trans rfl; have o2 := (bk_cell hSw 2).trans rfl; have o3 := (bk_cell hSw 3).trans rfl; (try simp only [List.getElem_toArray, List.getElem_cons_succ, List.getElem_cons_zero]); go_simp; try with_reducible rfl
          try simp only [Act.put, List.setIfInBounds_toArray, List.set_cons_zero, List.set_cons_succ, List.getElem_toArray, List.getElem_cons_succ, List.getElem_cons_zero]
          refine wpAnyH_take (i := 27) (v := ?_) rfl (by kernel_rfl) (by kernel_rfl) (by kernel_rfl) (fun _ _ _ h => h) (Or.inl ⟨by rfl, ?_⟩) (by assumption) ?_
          rotate_left
          · intro W hSw; (try dsimp only at hSw); have o0 := (bk_cell hSw 0).trans rfl; have o1 := (bk_cell hSw 1).trans rfl; have o2 := (bk_cell hSw 2).trans rfl; have o3 := (bk_cell hSw 3).trans rfl; (try simp only [List.getElem_toArray, List.getElem_cons_succ, List.getElem_cons_zero]); go_simp; try with_reducible rfl
          try simp only [Act.put, List.setIfInBounds_toArray, List.set_cons_zero, List.set_cons_succ, List.getElem_toArray, List.getElem_cons_succ, List.getElem_cons_zero]
          refine wpAnyH_take (i := 28) (v := ?_) rfl (by kernel_rfl) (by kernel_rfl) (by kernel_rfl) (fun _ _ _ h => h) (Or.inl ⟨by rfl, ?_⟩) (by assumption) ?_
          rotate_left
          · intro W hSw; (try dsimp only at hSw); have o0 := (bk_cell hSw 0).trans rfl; have o1 := (bk_cell hSw 1).trans rfl; have o2 := (bk_cell hSw 2).trans rfl; have o3 := (bk_cell hSw 3).trans rfl; (try simp only [List.getElem_toArray, List.getElem_cons_succ, List.getElem_cons_zero]); go_simp; try with_reducible rfl
          try simp only [Act.put, List.setIfInBounds_toArray, List.set_cons_zero, List.set_cons_succ, List.getElem_toArray, List.getElem_cons_succ, List.getElem_cons_zero]
          refine wpAnyH_take (i := 29) (v := ?_) rfl (by kernel_rfl) (by kernel_rfl) (by kernel_rfl) (fun _ _ _ h => h) (Or.inl ⟨by rfl, ?_⟩) (by assumption) ?_
          rotate_left
          · intro W hSw; (try dsimp only at hSw); have o0 := (bk_cell hSw 0).trans rfl; have o1 := (bk_cell hSw 1).trans rfl; have o2 := (bk_cell hSw 2).trans rfl; have o3 := (bk_cell hSw 3).trans rfl; (try simp only [List.getElem_toArray, List.getElem_cons_succ, List.getElem_cons_zero]); go_simp; try with_reducible rfl
          try simp only [Act.put, List.setIfInBounds_toArray, List.set_cons_zero, List.set_cons_succ, List.getElem_toArray, List.getElem_cons_succ, List.getElem_cons_zero]
          refine wpAnyH_take (i := 30) (v := ?_) rfl (by kernel_rfl) (by kernel_rfl) (by kernel_rfl) (fun _ _ _ h => h) (Or.inl ⟨by rfl, ?_⟩) (by assumption) ?_
          rotate_left
          · intro W hSw; (try dsimp only at hSw); have o0 := (bk_cell hSw 0).trans rfl; have o1 := (bk_cell hSw 1).trans rfl; have o2 := (bk_cell hSw 2).trans rfl; have o3 := (bk_cell hSw 3).trans rfl; (try simp only [List.getElem_toArray, List.getElem_cons_succ, List.getElem_cons_zero]); go_simp; try with_reducible rfl
          try simp only [Act.put, List.setIfInBounds_toArray, List.set_cons_zero, List.set_cons_succ, List.getElem_toArray, List.getElem_cons_succ, List.getElem_cons_zero]
          refine wpAnyH_take (i := 33) (v := ?_) rfl (by kernel_rfl) (by kernel_rfl) (by kernel_rfl) (fun _ _ _ h => h) (Or.inl ⟨by rfl, ?_⟩) (by assumption) ?_
          rotate_left
          · intro W hSw; (try dsimp only at hSw); have o0 := (bk_cell hSw 0).trans rfl; have o1 := (bk_cell hSw 1).trans rfl; have o2 := (bk_cell hSw 2).trans rfl; have o3 := (bk_cell hSw 3).trans rfl; (try simp only [List.getElem_toArray, List.getElem_cons_succ, List.getElem_cons_zero]); go_simp; try with_reducible rfl
          try simp only [Act.put, List.setIfInBounds_toArray, List.set_cons_zero, List.set_cons_succ, List.getElem_toArray, List.getElem_cons_succ, List.getElem_cons_zero]
          refine wpAnyH_take (i := 34) (v := ?_) rfl (by kernel_rfl) (by kernel_rfl) (by kernel_rfl) (fun _ _ _ h => h) (Or.inl ⟨by rfl, ?_⟩) (by assumption) ?_
          rotate_left
          · intro W hSw; (try dsimp only at hSw); have o0 := (bk_cell hSw 0).trans rfl; have o1 := (bk_cell hSw 1).trans rfl; have o2 := (bk_cell hSw 2).trans rfl; have o3 := (bk_cell hSw 3).trans rfl; (try simp only [List.getElem_toArray, List.getElem_cons_succ, List.getElem_cons_zero]); go_simp; try with_reducible rfl
          try simp only [Act.put, List.setIfInBounds_toArray, List.set_cons_zero, List.set_cons_succ, List.getElem_toArray, List.getElem_cons_succ, List.getElem_cons_zero]
          have hp9 := hp8.below hb9
          have hb79 := bstep hb8 hb9
          have e0 := keepc hb79 g0
          have e1 := keepc hb79 g1
          have hy9 := hy7.below hb79
          refine wpAnyH_ready (rs := [31, 32]) (by kernel_rfl) (by simp) ?_
          refine AllReadyH.cons rfl (fun KK hK => ?_) (AllReadyH.cons rfl (fun KK hK => ?_) AllReadyH.nil)
          · skip
            try simp only [List.getElem_toArray, List.getElem_cons_succ, List.getElem_cons_zero]
            go_simp
            go_at_call 20
            refine (sys_room (i : Int) hp9.s).mono ?_
            rintro e w10 ⟨rfl, hb10⟩
            (try go_wp2_with fail)
            refine hK.out _ _ ?_ (fun hHeld => ?_)
            · exact bk_below hob7 (bstep hb79 hb10)
            clear hK KK
            try simp only [Act.put, List.setIfInBounds_toArray, List.set_cons_zero, List.set_cons_succ, List.getElem_toArray, List.getElem_cons_succ, List.getElem_cons_zero]
            have e0' := keepc hb10 e0
            have e1' := keepc hb10 e1
            refine wpAnyH_ready (rs := [32]) (by kernel_rfl) (by simp) ?_
            refine AllReadyH.cons rfl (fun KK hK => ?_) AllReadyH.nil
            try simp only [List.getElem_toArray, List.getElem_cons_succ, List.getElem_cons_zero]
            go_simp
            refine hK.out _ _ ?_ (fun hHeld => ?_)
            · exact bk_below hob7 (bstep hb79 hb10)
            clear hK KK
            try simp only [Act.put, List.setIfInBounds_toArray, List.set_cons_zero, List.set_cons_succ, List.getElem_toArray, List.getElem_cons_succ, List.getElem_cons_zero]
            have hp10 := hp9.below hb10
            refine wpAnyH_ready (rs := [35]) (by kernel_rfl) (by simp) ?_
            refine AllReadyH.cons rfl (fun KK hK => ?_) AllReadyH.nil
            try simp only [List.getElem_toArray, List.getElem_cons_succ, List.getElem_cons_zero]
            go_simp
            go_at_call 27
            refine (rroom_any (some ⟨b9, o9, none⟩) cC (i : Int) (hy9.below hb10) hp10.c hok).mono ?_
            rintro e w11 ⟨rfl, hb11⟩
            (try go_wp2_with fail)
            refine hK.out _ _ ?_ (fun hHeld => ?_)
            · exact bk_below hob7 (bstep (bstep hb79 hb10) hb11)
            clear hK KK
            try simp only [Act.put, List.setIfInBounds_toArray, List.set_cons_zero, List.set_cons_succ, List.getElem_toArray, List.getElem_cons_succ, List.getElem_cons_zero]
            have xR : (roomE C LL' (i : Int) == roomE C LL' (i : Int)) = true := by simp
            refine wpAnyH_take (i := 36) (v := ?_) rfl (by kernel_rfl) (by kernel_rfl) (by kernel_rfl) (fun _ _ _ h => h) (Or.inl ⟨by rfl, ?_⟩) (by assumption) ?_
            rotate_left
            · intro W hSw; (try dsimp only at hSw); have o0 := (bk_cell hSw 0).trans rfl; have o1 := (bk_cell hSw 1).trans rfl; have o2 := (bk_cell hSw 2).trans rfl; have o3 := (bk_cell hSw 3).trans rfl; (try simp only [List.getElem_toArray, List.getElem_cons_succ, List.getElem_cons_zero]); go_simp; try with_reducible rfl
            try simp only [Act.put, List.setIfInBounds_toArray, List.set_cons_zero, List.set_cons_succ, List.getElem_toArray, List.getElem_cons_succ, List.getElem_cons_zero]
            refine wpAnyH_take (i := 37) (v := ?_) rfl (by kernel_rfl) (by kernel_rfl) (by kernel_rfl) (fun _ _ _ h => h) (Or.inl ⟨by rfl, ?_⟩) (by assumption) ?_
            rotate_left
            · intro W hSw; (try dsimp only at hSw); have o0 := (bk_cell hSw 0).trans rfl; have o1 := (bk_cell hSw 1).trans rfl; have o2 := (bk_cell hSw 2).trans rfl; have o3 := (bk_cell hSw 3).trans rfl; (try simp only [List.getElem_toArray, List.getElem_cons_succ, List.getElem_cons_zero]); go_simp; try with_reducible rfl
            try simp only [Act.put, List.setIfInBounds_toArray, List.set_cons_zero, List.set_cons_succ, List.getElem_toArray, List.getElem_cons_succ, List.getElem_cons_zero]
            refine wpAnyH_take (i := 38) (v := ?_) rfl (by kernel_rfl) (by kernel_rfl) (by kernel_rfl) (fun _ _ _ h => h) (Or.inl ⟨by rfl, ?_⟩) (by assumption) ?_
            rotate_left
            · intro W hSw; (try dsimp only at hSw); have o0 := (bk_cell hSw 0).trans rfl; have o1 := (bk_cell hSw 1).trans rfl; have o2 := (bk_cell hSw 2).trans rfl; have o3 := (bk_cell hSw 3).trans rfl; (try simp only [List.getElem_toArray, List.getElem_cons_succ, List.getElem_cons_zero]); go_simp; try with_reducible rfl
            try simp only [Act.put, List.setIfInBounds_toArray, List.set_cons_zero, List.set_cons_succ, List.getElem_toArray, List.getElem_cons_succ, List.getElem_cons_zero]
            refine wpAnyH_take (i := 39) (v := ?_) rfl (by kernel_rfl) (by kernel_rfl) (by kernel_rfl) (fun _ _ _ h => h) (Or.inl ⟨by rfl, ?_⟩) (by assumption) ?_
            rotate_left
            · intro W hSw; (try dsimp only at hSw); have o0 := (bk_cell hSw 0).trans rfl; have o1 := (bk_cell hSw 1).trans rfl; have o2 := (bk_cell hSw 2).trans rfl; have o3 := (bk_cell hSw 3).trans rfl; (try simp only [List.getElem_toArray, List.getElem_cons_succ, List.getElem_cons_zero]); go_simp; try with_reducible rfl
            try simp only [Act.put, List.setIfInBounds_toArray, List.set_cons_zero, List.set_cons_succ, List.getElem_toArray, List.getElem_cons_succ, List.getElem_cons_zero]
            refine wpAnyH_take (i := 40) (v := ?_) rfl (by kernel_rfl) (by kernel_rfl) (by kernel_rfl) (fun _ _ _ h => h) (Or.inl ⟨by rfl, ?_⟩) (by assumption) ?_
            rotate_left
            · intro W hSw; (try dsimp only at hSw); have o0 := (bk_cell hSw 0).trans rfl; have o1 := (bk_cell hSw 1).trans rfl; have o2 := (bk_cell hSw 2).trans rfl; have o3 := (bk_cell hSw 3).trans rfl; (try simp only [List.getElem_toArray, List.getElem_cons_succ, List.getElem_cons_zero]); go_simp; try with_reducible rfl
            try simp only [Act.put, List.setIfInBounds_toArray, List.set_cons_zero, List.set_cons_succ, List.getElem_toArray, List.getElem_cons_succ, List.getElem_cons_zero]
            refine wpAnyH_take (i := 41) (v := ?_) rfl (by kernel_rfl) (by kernel_rfl) (by kernel_rfl) (fun _ _ _ h => h) (Or.inl ⟨by rfl, ?_⟩) (by assumption) ?_
            rotate_left
            · intro W hSw; (try dsimp only at hSw); have o0 := (bk_cell hSw 0).trans rfl; have o1 := (bk_cell hSw 1).trans rfl; have o2 := (bk_cell hSw 2).trans rfl; have o3 := (bk_cell hSw 3).trans rfl; (try simp only [List.getElem_toArray, List.getElem_cons_succ, List.getElem_cons_zero]); go_simp; try with_reducible rfl
            try simp only [Act.put, List.setIfInBounds_toArray, List.set_cons_zero, List.set_cons_succ, List.getElem_toArray, List.getElem_cons_succ, List.getElem_cons_zero]
            refine wpAnyH_take (i := 43) (v := ?_) rfl (by kernel_rfl) (by kernel_rfl) (by kernel_rfl) (fun _ _ _ h => h) (Or.inl ⟨by rfl, ?_⟩) (by assumption) ?_
            rotate_left
            · intro W hSw; (try dsimp only at hSw); have o0 := (bk_cell hSw 0).trans rfl; have o1 := (bk_cell hSw 1).trans rfl; have o2 := (bk_cell hSw 2).trans rfl; have o3 := (bk_cell hSw 3).trans rfl; (try simp only [List.getElem_toArray, List.getElem_cons_succ, List.getElem_cons_zero]); go_simp; try with_reducible rfl
            try simp only [Act.put, List.setIfInBounds_toArray, List.set_cons_zero, List.set_cons_succ, List.getElem_toArray, List.getElem_cons_succ, List.getElem_cons_zero]
            have hp11 := hp10.below hb11
            refine wpAnyH_ready (rs := [42]) (by kernel_rfl) (by simp) ?_
            refine AllReadyH.cons rfl (fun KK hK => ?_) AllReadyH.nil
            try simp only [List.getElem_toArray, List.getElem_cons_succ, List.getElem_cons_zero]
            go_simp
            go_at_call 28
            refine (show Calls Try.prog 28 #[.pointer (some ⟨K.X, 0, none⟩), .int .i64 (i : Int)] w11 fun e W' => e = .returned (.int .i64 (C.cw i)) ∧ Below w11.heap.size w11 W' from by rw [← HWV.out]; exact sys_words (i : Int) hp11.s).mono ?_
            rintro e w13 ⟨rfl, hb13⟩
            (try go_wp2_with fail)
            refine hK.out _ _ ?_ (fun hHeld => ?_)
            · exact bk_below hob7 (bstep (bstep (bstep hb79 hb10) hb11) hb13)
            clear hK KK
            try simp only [Act.put, List.setIfInBounds_toArray, List.set_cons_zero, List.set_cons_succ, List.getElem_toArray, List.getElem_cons_succ, List.getElem_cons_zero]
            refine wpAnyH_take (i := 44) (v := ?_) rfl (by kernel_rfl) (by kernel_rfl) (by kernel_rfl) (fun _ _ _ h => h) (Or.inl ⟨by rfl, ?_⟩) (by assumption) ?_
            rotate_left
            · intro W hSw; (try dsimp only at hSw); (try simp only [List.getElem_toArray, List.getElem_cons_succ, List.getElem_cons_zero]); go_simp; try with_reducible rfl
            try simp only [Act.put, List.setIfInBounds_toArray, List.set_cons_zero, List.set_cons_succ, List.getElem_toArray, List.getElem_cons_succ, List.getElem_cons_zero]
            refine wpAnyH_take (i := 45) (v := ?_) rfl (by kernel_rfl) (by kernel_rfl) (by kernel_rfl) (fun _ _ _ h => h) (Or.inl ⟨by rfl, ?_⟩) (by assumption) ?_
            rotate_left
            · intro W hSw; (try dsimp only at hSw); (try simp only [List.getElem_toArray, List.getElem_cons_succ, List.getElem_cons_zero]); go_simp; try with_reducible rfl
            try simp only [Act.put, List.setIfInBounds_toArray, List.set_cons_zero, List.set_cons_succ, List.getElem_toArray, List.getElem_cons_succ, List.getElem_cons_zero]
            refine wpAnyH_done (by kernel_rfl) ?_ _
            have hb7e := bstep (bstep (bstep hb79 hb10) hb11) hb13
            have hBB : Below w1.heap.size wr w13 := ((((bdrew HAL.out).mono (by omega)).trans hb7)).trans (hb7e.mono (Nat.le_of_lt hp7.s.size))
            have HBZ := Lib.hid (HBr.out.trans (hBB.mono (Nat.le_of_lt hw1)))
            have HVZ := Lib.hid (HVr.out.keep HI.out hBB hw1 HBZ.out)
            have HPZ := Lib.hid (hp7.below hb7e)
            clear hb7e hBB hp7 hp8 hp9 hp10 hp11 hb7 hk7 hob7 hd7 hy7 hy9 hb8 hb9 hb79 hb10 hb11 hb13 hHeld
            go_wp2_with fail
            exact ⟨⟨k + 1, by omega, by go_num, HBZ.out, HVZ.out, LL', HPZ.out⟩, by simp [intOf]; omega⟩
          · skip
            try simp only [List.getElem_toArray, List.getElem_cons_succ, List.getElem_cons_zero]
            go_simp
            refine hK.out _ _ ?_ (fun hHeld => ?_)
            · exact bk_below hob7 hb79
            clear hK KK
            try simp only [Act.put, List.setIfInBounds_toArray, List.set_cons_zero, List.set_cons_succ, List.getElem_toArray, List.getElem_cons_succ, List.getElem_cons_zero]
            refine wpAnyH_ready (rs := [31]) (by kernel_rfl) (by simp) ?_
            refine AllReadyH.cons rfl (fun KK hK => ?_) AllReadyH.nil
            try simp only [List.getElem_toArray, List.getElem_cons_succ, List.getElem_cons_zero]
            go_simp
            go_at_call 20
            refine (sys_room (i : Int) hp9.s).mono ?_
            rintro e w10 ⟨rfl, hb10⟩
            (try go_wp2_with fail)
            refine hK.out _ _ ?_ (fun hHeld => ?_)
            · exact bk_below hob7 (bstep hb79 hb10)
            clear hK KK
            try simp only [Act.put, List.setIfInBounds_toArray, List.set_cons_zero, List.set_cons_succ, List.getElem_toArray, List.getElem_cons_succ, List.getElem_cons_zero]
            have hp10 := hp9.below hb10
            refine wpAnyH_ready (rs := [35]) (by kernel_rfl) (by simp) ?_
            refine AllReadyH.cons rfl (fun KK hK => ?_) AllReadyH.nil
            try simp only [List.getElem_toArray, List.getElem_cons_succ, List.getElem_cons_zero]
            go_simp
            go_at_call 27
            refine (rroom_any (some ⟨b9, o9, none⟩) cC (i : Int) (hy9.below hb10) hp10.c hok).mono ?_
            rintro e w11 ⟨rfl, hb11⟩
            (try go_wp2_with fail)
            refine hK.out _ _ ?_ (fun hHeld => ?_)
            · exact bk_below hob7 (bstep (bstep hb79 hb10) hb11)
            clear hK KK
            try simp only [Act.put, List.setIfInBounds_toArray, List.set_cons_zero, List.set_cons_succ, List.getElem_toArray, List.getElem_cons_succ, List.getElem_cons_zero]
            have xR : (roomE C LL' (i : Int) == roomE C LL' (i : Int)) = true := by simp
            refine wpAnyH_take (i := 36) (v := ?_) rfl (by kernel_rfl) (by kernel_rfl) (by kernel_rfl) (fun _ _ _ h => h) (Or.inl ⟨by rfl, ?_⟩) (by assumption) ?_
            rotate_left
            · intro W hSw; (try dsimp only at hSw); have o0 := (bk_cell hSw 0).trans rfl; have o1 := (bk_cell hSw 1).trans rfl; have o2 := (bk_cell hSw 2).trans rfl; have o3 := (bk_cell hSw 3).trans rfl; (try simp only [List.getElem_toArray, List.getElem_cons_succ, List.getElem_cons_zero]); go_simp; try with_reducible rfl
            try simp only [Act.put, List.setIfInBounds_toArray, List.set_cons_zero, List.set_cons_succ, List.getElem_toArray, List.getElem_cons_succ, List.getElem_cons_zero]
            refine wpAnyH_take (i := 37) (v := ?_) rfl (by kernel_rfl) (by kernel_rfl) (by kernel_rfl) (fun _ _ _ h => h) (Or.inl ⟨by rfl, ?_⟩) (by assumption) ?_
            rotate_left
            · intro W hSw; (try dsimp only at hSw); have o0 := (bk_cell hSw 0).trans rfl; have o1 := (bk_cell hSw 1).trans rfl; have o2 := (bk_cell hSw 2).trans rfl; have o3 := (bk_cell hSw 3).trans rfl; (try simp only [List.getElem_toArray, List.getElem_cons_succ, List.getElem_cons_zero]); go_simp; try with_reducible rfl
            try simp only [Act.put, List.setIfInBounds_toArray, List.set_cons_zero, List.set_cons_succ, List.getElem_toArray, List.getElem_cons_succ, List.getElem_cons_zero]
            refine wpAnyH_take (i := 38) (v := ?_) rfl (by kernel_rfl) (by kernel_rfl) (by kernel_rfl) (fun _ _ _ h => h) (Or.inl ⟨by rfl, ?_⟩) (by assumption) ?_
            rotate_left
            · intro W hSw; (try dsimp only at hSw); have o0 := (bk_cell hSw 0).trans rfl; have o1 := (bk_cell hSw 1).trans rfl; have o2 := (bk_cell hSw 2).trans rfl; have o3 := (bk_cell hSw 3).trans rfl; (try simp only [List.getElem_toArray, List.getElem_cons_succ, List.getElem_cons_zero]); go_simp; try with_reducible rfl
            try simp only [Act.put, List.setIfInBounds_toArray, List.set_cons_zero, List.set_cons_succ, List.getElem_toArray, List.getElem_cons_succ, List.getElem_cons_zero]
            refine wpAnyH_take (i := 39) (v := ?_) rfl (by kernel_rfl) (by kernel_rfl) (by kernel_rfl) (fun _ _ _ h => h) (Or.inl ⟨by rfl, ?_⟩) (by assumption) ?_
            rotate_left
            · intro W hSw; (try dsimp only at hSw); have o0 := (bk_cell hSw 0).trans rfl; have o1 := (bk_cell hSw 1).trans rfl; have o2 := (bk_cell hSw 2).trans rfl; have o3 := (bk_cell hSw 3).trans rfl; (try simp only [List.getElem_toArray, List.getElem_cons_succ, List.getElem_cons_zero]); go_simp; try with_reducible rfl
            try simp only [Act.put, List.setIfInBounds_toArray, List.set_cons_zero, List.set_cons_succ, List.getElem_toArray, List.getElem_cons_succ, List.getElem_cons_zero]
            refine wpAnyH_take (i := 40) (v := ?_) rfl (by kernel_rfl) (by kernel_rfl) (by kernel_rfl) (fun _ _ _ h => h) (Or.inl ⟨by rfl, ?_⟩) (by assumption) ?_
            rotate_left
            · intro W hSw; (try dsimp only at hSw); have o0 := (bk_cell hSw 0).trans rfl; have o1 := (bk_cell hSw 1).trans rfl; have o2 := (bk_cell hSw 2).trans rfl; have o3 := (bk_cell hSw 3).trans rfl; (try simp only [List.getElem_toArray, List.getElem_cons_succ, List.getElem_cons_zero]); go_simp; try with_reducible rfl
            try simp only [Act.put, List.setIfInBounds_toArray, List.set_cons_zero, List.set_cons_succ, List.getElem_toArray, List.getElem_cons_succ, List.getElem_cons_zero]
            refine wpAnyH_take (i := 41) (v := ?_) rfl (by kernel_rfl) (by kernel_rfl) (by kernel_rfl) (fun _ _ _ h => h) (Or.inl ⟨by rfl, ?_⟩) (by assumption) ?_
            rotate_left
            · intro W hSw; (try dsimp only at hSw); have o0 := (bk_cell hSw 0).trans rfl; have o1 := (bk_cell hSw 1).trans rfl; have o2 := (bk_cell hSw 2).trans rfl; have o3 := (bk_cell hSw 3).trans rfl; (try simp only [List.getElem_toArray, List.getElem_cons_succ, List.getElem_cons_zero]); go_simp; try with_reducible rfl
            try simp only [Act.put, List.setIfInBounds_toArray, List.set_cons_zero, List.set_cons_succ, List.getElem_toArray, List.getElem_cons_succ, List.getElem_cons_zero]
            refine wpAnyH_take (i := 43) (v := ?_) rfl (by kernel_rfl) (by kernel_rfl) (by kernel_rfl) (fun _ _ _ h => h) (Or.inl ⟨by rfl, ?_⟩) (by assumption) ?_
            rotate_left
            · intro W hSw; (try dsimp only at hSw); have o0 := (bk_cell hSw 0).trans rfl; have o1 := (bk_cell hSw 1).trans rfl; have o2 := (bk_cell hSw 2).trans rfl; have o3 := (bk_cell hSw 3).trans rfl; (try simp only [List.getElem_toArray, List.getElem_cons_succ, List.getElem_cons_zero]); go_simp; try with_reducible rfl
            try simp only [Act.put, List.setIfInBounds_toArray, List.set_cons_zero, List.set_cons_succ, List.getElem_toArray, List.getElem_cons_succ, List.getElem_cons_zero]
            have hp11 := hp10.below hb11
            refine wpAnyH_ready (rs := [42]) (by kernel_rfl) (by simp) ?_
            refine AllReadyH.cons rfl (fun KK hK => ?_) AllReadyH.nil
            try simp only [List.getElem_toArray, List.getElem_cons_succ, List.getElem_cons_zero]
            go_simp
            go_at_call 28
            refine (show Calls Try.prog 28 #[.pointer (some ⟨K.X, 0, none⟩), .int .i64 (i : Int)] w11 fun e W' => e = .returned (.int .i64 (C.cw i)) ∧ Below w11.heap.size w11 W' from by rw [← HWV.out]; exact sys_words (i : Int) hp11.s).mono ?_
            rintro e w13 ⟨rfl, hb13⟩
            (try go_wp2_with fail)
            refine hK.out _ _ ?_ (fun hHeld => ?_)
            · exact bk_below hob7 (bstep (bstep (bstep hb79 hb10) hb11) hb13)
            clear hK KK
            try simp only [Act.put, List.setIfInBounds_toArray, List.set_cons_zero, List.set_cons_succ, List.getElem_toArray, List.getElem_cons_succ, List.getElem_cons_zero]
            refine wpAnyH_take (i := 44) (v := ?_) rfl (by kernel_rfl) (by kernel_rfl) (by kernel_rfl) (fun _ _ _ h => h) (Or.inl ⟨by rfl, ?_⟩) (by assumption) ?_
            rotate_left
            · intro W hSw; (try dsimp only at hSw); (try simp only [List.getElem_toArray, List.getElem_cons_succ, List.getElem_cons_zero]); go_simp; try with_reducible rfl
            try simp only [Act.put, List.setIfInBounds_toArray, List.set_cons_zero, List.set_cons_succ, List.getElem_toArray, List.getElem_cons_succ, List.getElem_cons_zero]
            refine wpAnyH_take (i := 45) (v := ?_) rfl (by kernel_rfl) (by kernel_rfl) (by kernel_rfl) (fun _ _ _ h => h) (Or.inl ⟨by rfl, ?_⟩) (by assumption) ?_
            rotate_left
            · intro W hSw; (try dsimp only at hSw); (try simp only [List.getElem_toArray, List.getElem_cons_succ, List.getElem_cons_zero]); go_simp; try with_reducible rfl
            try simp only [Act.put, List.setIfInBounds_toArray, List.set_cons_zero, List.set_cons_succ, List.getElem_toArray, List.getElem_cons_succ, List.getElem_cons_zero]
            refine wpAnyH_done (by kernel_rfl) ?_ _
            have hb7e := bstep (bstep (bstep hb79 hb10) hb11) hb13
            have hBB : Below w1.heap.size wr w13 := ((((bdrew HAL.out).mono (by omega)).trans hb7)).trans (hb7e.mono (Nat.le_of_lt hp7.s.size))
            have HBZ := Lib.hid (HBr.out.trans (hBB.mono (Nat.le_of_lt hw1)))
            have HVZ := Lib.hid (HVr.out.keep HI.out hBB hw1 HBZ.out)
            have HPZ := Lib.hid (hp7.below hb7e)
            clear hb7e hBB hp7 hp8 hp9 hp10 hp11 hb7 hk7 hob7 hd7 hy7 hy9 hb8 hb9 hb79 hb10 hb11 hb13 hHeld
            go_wp2_with fail
            exact ⟨⟨k + 1, by omega, by go_num, HBZ.out, HVZ.out, LL', HPZ.out⟩, by simp [intOf]; omega⟩
        · skip
          try simp only [List.getElem_toArray, List.getElem_cons_succ, List.getElem_cons_zero]
          go_simp
          refine hK.out _ _ ?_ (fun hHeld => ?_)
          · exact hob7
          clear hK KK
          try simp only [Act.put, List.setIfInBounds_toArray, List.set_cons_zero, List.set_cons_succ, List.getElem_toArray, List.getElem_cons_succ, List.getElem_cons_zero]
          refine wpAnyH_ready (rs := [14]) (by kernel_rfl) (by simp) ?_
          refine AllReadyH.cons rfl (fun KK hK => ?_) AllReadyH.nil
          try simp only [List.getElem_toArray, List.getElem_cons_succ, List.getElem_cons_zero]
          go_simp
          go_at_call 25
          refine (show Calls Try.prog 25 #[.pointer (some ⟨K.X, 0, none⟩), .int .i64 pt, .int .i64 (i : Int), .bool (d.tmod 2 == 1)] w7 fun e W' => e = .returned (.int .i64 E1) ∧ Below w7.heap.size w7 W' from by rw [HF.out]; exact sys_may pt (i : Int) _ hp7.s).mono ?_
          rintro e w8 ⟨rfl, hb8⟩
          (try go_wp2_with fail)
          refine hK.out _ _ ?_ (fun hHeld => ?_)
          · exact bk_below hob7 hb8
          clear hK KK
          try simp only [Act.put, List.setIfInBounds_toArray, List.set_cons_zero, List.set_cons_succ, List.getElem_toArray, List.getElem_cons_succ, List.getElem_cons_zero]
          have g0' := keepc hb8 g0
          have g1' := keepc hb8 g1
          have hp8 := hp7.below hb8
          refine wpAnyH_ready (rs := [24]) (by kernel_rfl) (by simp) ?_
          refine AllReadyH.cons rfl (fun KK hK => ?_) AllReadyH.nil
          try simp only [List.getElem_toArray, List.getElem_cons_succ, List.getElem_cons_zero]
          go_simp
          go_at_call 26
          refine (show Calls Try.prog 26 #[.agg #[.slice (some ⟨b9, o9, none⟩) C.nC cC, .slice vp C.nC vcap], .int .i64 pt, .int .i64 (i : Int), .bool (d.tmod 2 == 1)] w8 fun e W' => e = .returned (.int .i64 E1) ∧ Below w8.heap.size w8 W' from by rw [HF.out]; exact rmay_any C (some ⟨b9, o9, none⟩) vp cC C.nC vcap pt (i : Int) _ w8 hp8.c hn16).mono ?_
          rintro e w9 ⟨rfl, hb9⟩
          (try go_wp2_with fail)
          refine hK.out _ _ ?_ (fun hHeld => ?_)
          · exact bk_below hob7 (bstep hb8 hb9)
          clear hK KK
          try simp only [Act.put, List.setIfInBounds_toArray, List.set_cons_zero, List.set_cons_succ, List.getElem_toArray, List.getElem_cons_succ, List.getElem_cons_zero]
          refine wpAnyH_take (i := 25) (v := ?_) rfl (by kernel_rfl) (by kernel_rfl) (by kernel_rfl) (fun _ _ _ h => h) (Or.inl ⟨by rfl, ?_⟩) (by assumption) ?_
          rotate_left
          · intro W hSw; (try dsimp only at hSw); have o0 := (bk_cell hSw 0).trans rfl; have o1 := (bk_cell hSw 1).trans rfl; have o2 := (bk_cell hSw 2).trans rfl; have o3 := (bk_cell hSw 3).trans rfl; (try simp only [List.getElem_toArray, List.getElem_cons_succ, List.getElem_cons_zero]); go_simp; try with_reducible rfl
          try simp only [Act.put, List.setIfInBounds_toArray, List.set_cons_zero, List.set_cons_succ, List.getElem_toArray, List.getElem_cons_succ, List.getElem_cons_zero]
          refine wpAnyH_take (i := 26) (v := ?_) rfl (by kernel_rfl) (by kernel_rfl) (by kernel_rfl) (fun _ _ _ h => h) (Or.inl ⟨by rfl, ?_⟩) (by assumption) ?_
          rotate_left
          · intro W hSw; (try dsimp only at hSw); have o0 := (bk_cell hSw 0).trans rfl; have o1 := (bk_cell hSw 1).trans rfl; have o2 := (bk_cell hSw 2).trans rfl; have o3 := (bk_cell hSw 3).trans rfl; (try simp only [List.getElem_toArray, List.getElem_cons_succ, List.getElem_cons_zero]); go_simp; try with_reducible rfl
          try simp only [Act.put, List.setIfInBounds_toArray, List.set_cons_zero, List.set_cons_succ, List.getElem_toArray, List.getElem_cons_succ, List.getElem_cons_zero]
          refine wpAnyH_take (i := 27) (v := ?_) rfl (by kernel_rfl) (by kernel_rfl) (by kernel_rfl) (fun _ _ _ h => h) (Or.inl ⟨by rfl, ?_⟩) (by assumption) ?_
          rotate_left
          · intro W hSw; (try dsimp only at hSw); have o0 := (bk_cell hSw 0).trans rfl; have o1 := (bk_cell hSw 1).trans rfl; have o2 := (bk_cell hSw 2).trans rfl; have o3 := (bk_cell hSw 3).trans rfl; (try simp only [List.getElem_toArray, List.getElem_cons_succ, List.getElem_cons_zero]); go_simp; try with_reducible rfl
          try simp only [Act.put, List.setIfInBounds_toArray, List.set_cons_zero, List.set_cons_succ, List.getElem_toArray, List.getElem_cons_succ, List.getElem_cons_zero]
          refine wpAnyH_take (i := 28) (v := ?_) rfl (by kernel_rfl) (by kernel_rfl) (by kernel_rfl) (fun _ _ _ h => h) (Or.inl ⟨by rfl, ?_⟩) (by assumption) ?_
          rotate_left
          · intro W hSw; (try dsimp only at hSw); have o0 := (bk_cell hSw 0).trans rfl; have o1 := (bk_cell hSw 1).trans rfl; have o2 := (bk_cell hSw 2).trans rfl; have o3 := (bk_cell hSw 3).trans rfl; (try simp only [List.getElem_toArray, List.getElem_cons_succ, List.getElem_cons_zero]); go_simp; try with_reducible rfl
          try simp only [Act.put, List.setIfInBounds_toArray, List.set_cons_zero, List.set_cons_succ, List.getElem_toArray, List.getElem_cons_succ, List.getElem_cons_zero]
          refine wpAnyH_take (i := 29) (v := ?_) rfl (by kernel_rfl) (by kernel_rfl) (by kernel_rfl) (fun _ _ _ h => h) (Or.inl ⟨by rfl, ?_⟩) (by assumption) ?_
          rotate_left
          · intro W hSw; (try dsimp only at hSw); have o0 := (bk_cell hSw 0).trans rfl; have o1 := (bk_cell hSw 1).trans rfl; have o2 := (bk_cell hSw 2).trans rfl; have o3 := (bk_cell hSw 3).trans rfl; (try simp only [List.getElem_toArray, List.getElem_cons_succ, List.getElem_cons_zero]); go_simp; try with_reducible rfl
          try simp only [Act.put, List.setIfInBounds_toArray, List.set_cons_zero, List.set_cons_succ, List.getElem_toArray, List.getElem_cons_succ, List.getElem_cons_zero]
          refine wpAnyH_take (i := 30) (v := ?_) rfl (by kernel_rfl) (by kernel_rfl) (by kernel_rfl) (fun _ _ _ h => h) (Or.inl ⟨by rfl, ?_⟩) (by assumption) ?_
          rotate_left
          · intro W hSw; (try dsimp only at hSw); have o0 := (bk_cell hSw 0).trans rfl; have o1 := (bk_cell hSw 1).trans rfl; have o2 := (bk_cell hSw 2).trans rfl; have o3 := (bk_cell hSw 3).trans rfl; (try simp only [List.getElem_toArray, List.getElem_cons_succ, List.getElem_cons_zero]); go_simp; try with_reducible rfl
          try simp only [Act.put, List.setIfInBounds_toArray, List.set_cons_zero, List.set_cons_succ, List.getElem_toArray, List.getElem_cons_succ, List.getElem_cons_zero]
          refine wpAnyH_take (i := 33) (v := ?_) rfl (by kernel_rfl) (by kernel_rfl) (by kernel_rfl) (fun _ _ _ h => h) (Or.inl ⟨by rfl, ?_⟩) (by assumption) ?_
          rotate_left
          · intro W hSw; (try dsimp only at hSw); have o0 := (bk_cell hSw 0).trans rfl; have o1 := (bk_cell hSw 1).trans rfl; have o2 := (bk_cell hSw 2).trans rfl; have o3 := (bk_cell hSw 3).trans rfl; (try simp only [List.getElem_toArray, List.getElem_cons_succ, List.getElem_cons_zero]); go_simp; try with_reducible rfl
          try simp only [Act.put, List.setIfInBounds_toArray, List.set_cons_zero, List.set_cons_succ, List.getElem_toArray, List.getElem_cons_succ, List.getElem_cons_zero]
          refine wpAnyH_take (i := 34) (v := ?_) rfl (by kernel_rfl) (by kernel_rfl) (by kernel_rfl) (fun _ _ _ h => h) (Or.inl ⟨by rfl, ?_⟩) (by assumption) ?_
          rotate_left
          · intro W hSw; (try dsimp only at hSw); have o0 := (bk_cell hSw 0).trans rfl; have o1 := (bk_cell hSw 1).trans rfl; have o2 := (bk_cell hSw 2).trans rfl; have o3 := (bk_cell hSw 3).trans rfl; (try simp only [List.getElem_toArray, List.getElem_cons_succ, List.getElem_cons_zero]); go_simp; try with_reducible rfl
          try simp only [Act.put, List.setIfInBounds_toArray, List.set_cons_zero, List.set_cons_succ, List.getElem_toArray, List.getElem_cons_succ, List.getElem_cons_zero]
          have hp9 := hp8.below hb9
          have hb79 := bstep hb8 hb9
          have e0 := keepc hb79 g0
          have e1 := keepc hb79 g1
          have hy9 := hy7.below hb79
          refine wpAnyH_ready (rs := [31, 32]) (by kernel_rfl) (by simp) ?_
          refine AllReadyH.cons rfl (fun KK hK => ?_) (AllReadyH.cons rfl (fun KK hK => ?_) AllReadyH.nil)
          · skip
            try simp only [List.getElem_toArray, List.getElem_cons_succ, List.getElem_cons_zero]
            go_simp
            go_at_call 20
            refine (sys_room (i : Int) hp9.s).mono ?_
            rintro e w10 ⟨rfl, hb10⟩
            (try go_wp2_with fail)
            refine hK.out _ _ ?_ (fun hHeld => ?_)
            · exact bk_below hob7 (bstep hb79 hb10)
            clear hK KK
            try simp only [Act.put, List.setIfInBounds_toArray, List.set_cons_zero, List.set_cons_succ, List.getElem_toArray, List.getElem_cons_succ, List.getElem_cons_zero]
            have e0' := keepc hb10 e0
            have e1' := keepc hb10 e1
            refine wpAnyH_ready (rs := [32]) (by kernel_rfl) (by simp) ?_
            refine AllReadyH.cons rfl (fun KK hK => ?_) AllReadyH.nil
            try simp only [List.getElem_toArray, List.getElem_cons_succ, List.getElem_cons_zero]
            go_simp
            refine hK.out _ _ ?_ (fun hHeld => ?_)
            · exact bk_below hob7 (bstep hb79 hb10)
            clear hK KK
            try simp only [Act.put, List.setIfInBounds_toArray, List.set_cons_zero, List.set_cons_succ, List.getElem_toArray, List.getElem_cons_succ, List.getElem_cons_zero]
            have hp10 := hp9.below hb10
            refine wpAnyH_ready (rs := [35]) (by kernel_rfl) (by simp) ?_
            refine AllReadyH.cons rfl (fun KK hK => ?_) AllReadyH.nil
            try simp only [List.getElem_toArray, List.getElem_cons_succ, List.getElem_cons_zero]
            go_simp
            go_at_call 27
            refine (rroom_any (some ⟨b9, o9, none⟩) cC (i : Int) (hy9.below hb10) hp10.c hok).mono ?_
            rintro e w11 ⟨rfl, hb11⟩
            (try go_wp2_with fail)
            refine hK.out _ _ ?_ (fun hHeld => ?_)
            · exact bk_below hob7 (bstep (bstep hb79 hb10) hb11)
            clear hK KK
            try simp only [Act.put, List.setIfInBounds_toArray, List.set_cons_zero, List.set_cons_succ, List.getElem_toArray, List.getElem_cons_succ, List.getElem_cons_zero]
            have xR : (roomE C LL' (i : Int) == roomE C LL' (i : Int)) = true := by simp
            refine wpAnyH_take (i := 36) (v := ?_) rfl (by kernel_rfl) (by kernel_rfl) (by kernel_rfl) (fun _ _ _ h => h) (Or.inl ⟨by rfl, ?_⟩) (by assumption) ?_
            rotate_left
            · intro W hSw; (try dsimp only at hSw); have o0 := (bk_cell hSw 0).trans rfl; have o1 := (bk_cell hSw 1).trans rfl; have o2 := (bk_cell hSw 2).trans rfl; have o3 := (bk_cell hSw 3).trans rfl; (try simp only [List.getElem_toArray, List.getElem_cons_succ, List.getElem_cons_zero]); go_simp; try with_reducible rfl
            try simp only [Act.put, List.setIfInBounds_toArray, List.set_cons_zero, List.set_cons_succ, List.getElem_toArray, List.getElem_cons_succ, List.getElem_cons_zero]
            refine wpAnyH_take (i := 37) (v := ?_) rfl (by kernel_rfl) (by kernel_rfl) (by kernel_rfl) (fun _ _ _ h => h) (Or.inl ⟨by rfl, ?_⟩) (by assumption) ?_
            rotate_left
            · intro W hSw; (try dsimp only at hSw); have o0 := (bk_cell hSw 0).trans rfl; have o1 := (bk_cell hSw 1).trans rfl; have o2 := (bk_cell hSw 2).trans rfl; have o3 := (bk_cell hSw 3).trans rfl; (try simp only [List.getElem_toArray, List.getElem_cons_succ, List.getElem_cons_zero]); go_simp; try with_reducible rfl
            try simp only [Act.put, List.setIfInBounds_toArray, List.set_cons_zero, List.set_cons_succ, List.getElem_toArray, List.getElem_cons_succ, List.getElem_cons_zero]
            refine wpAnyH_take (i := 38) (v := ?_) rfl (by kernel_rfl) (by kernel_rfl) (by kernel_rfl) (fun _ _ _ h => h) (Or.inl ⟨by rfl, ?_⟩) (by assumption) ?_
            rotate_left
            · intro W hSw; (try dsimp only at hSw); have o0 := (bk_cell hSw 0).trans rfl; have o1 := (bk_cell hSw 1).trans rfl; have o2 := (bk_cell hSw 2).trans rfl; have o3 := (bk_cell hSw 3).trans rfl; (try simp only [List.getElem_toArray, List.getElem_cons_succ, List.getElem_cons_zero]); go_simp; try with_reducible rfl
            try simp only [Act.put, List.setIfInBounds_toArray, List.set_cons_zero, List.set_cons_succ, List.getElem_toArray, List.getElem_cons_succ, List.getElem_cons_zero]
            refine wpAnyH_take (i := 39) (v := ?_) rfl (by kernel_rfl) (by kernel_rfl) (by kernel_rfl) (fun _ _ _ h => h) (Or.inl ⟨by rfl, ?_⟩) (by assumption) ?_
            rotate_left
            · intro W hSw; (try dsimp only at hSw); have o0 := (bk_cell hSw 0).trans rfl; have o1 := (bk_cell hSw 1).trans rfl; have o2 := (bk_cell hSw 2).trans rfl; have o3 := (bk_cell hSw 3).trans rfl; (try simp only [List.getElem_toArray, List.getElem_cons_succ, List.getElem_cons_zero]); go_simp; try with_reducible rfl
            try simp only [Act.put, List.setIfInBounds_toArray, List.set_cons_zero, List.set_cons_succ, List.getElem_toArray, List.getElem_cons_succ, List.getElem_cons_zero]
            refine wpAnyH_take (i := 40) (v := ?_) rfl (by kernel_rfl) (by kernel_rfl) (by kernel_rfl) (fun _ _ _ h => h) (Or.inl ⟨by rfl, ?_⟩) (by assumption) ?_
            rotate_left
            · intro W hSw; (try dsimp only at hSw); have o0 := (bk_cell hSw 0).trans rfl; have o1 := (bk_cell hSw 1).trans rfl; have o2 := (bk_cell hSw 2).trans rfl; have o3 := (bk_cell hSw 3).trans rfl; (try simp only [List.getElem_toArray, List.getElem_cons_succ, List.getElem_cons_zero]); go_simp; try with_reducible rfl
            try simp only [Act.put, List.setIfInBounds_toArray, List.set_cons_zero, List.set_cons_succ, List.getElem_toArray, List.getElem_cons_succ, List.getElem_cons_zero]
            refine wpAnyH_take (i := 41) (v := ?_) rfl (by kernel_rfl) (by kernel_rfl) (by kernel_rfl) (fun _ _ _ h => h) (Or.inl ⟨by rfl, ?_⟩) (by assumption) ?_
            rotate_left
            · intro W hSw; (try dsimp only at hSw); have o0 := (bk_cell hSw 0).trans rfl; have o1 := (bk_cell hSw 1).trans rfl; have o2 := (bk_cell hSw 2).trans rfl; have o3 := (bk_cell hSw 3).trans rfl; (try simp only [List.getElem_toArray, List.getElem_cons_succ, List.getElem_cons_zero]); go_simp; try with_reducible rfl
            try simp only [Act.put, List.setIfInBounds_toArray, List.set_cons_zero, List.set_cons_succ, List.getElem_toArray, List.getElem_cons_succ, List.getElem_cons_zero]
            refine wpAnyH_take (i := 43) (v := ?_) rfl (by kernel_rfl) (by kernel_rfl) (by kernel_rfl) (fun _ _ _ h => h) (Or.inl ⟨by rfl, ?_⟩) (by assumption) ?_
            rotate_left
            · intro W hSw; (try dsimp only at hSw); have o0 := (bk_cell hSw 0).trans rfl; have o1 := (bk_cell hSw 1).trans rfl; have o2 := (bk_cell hSw 2).trans rfl; have o3 := (bk_cell hSw 3).trans rfl; (try simp only [List.getElem_toArray, List.getElem_cons_succ, List.getElem_cons_zero]); go_simp; try with_reducible rfl
            try simp only [Act.put, List.setIfInBounds_toArray, List.set_cons_zero, List.set_cons_succ, List.getElem_toArray, List.getElem_cons_succ, List.getElem_cons_zero]
            have hp11 := hp10.below hb11
            refine wpAnyH_ready (rs := [42]) (by kernel_rfl) (by simp) ?_
            refine AllReadyH.cons rfl (fun KK hK => ?_) AllReadyH.nil
            try simp only [List.getElem_toArray, List.getElem_cons_succ, List.getElem_cons_zero]
            go_simp
            go_at_call 28
            refine (show Calls Try.prog 28 #[.pointer (some ⟨K.X, 0, none⟩), .int .i64 (i : Int)] w11 fun e W' => e = .returned (.int .i64 (C.cw i)) ∧ Below w11.heap.size w11 W' from by rw [← HWV.out]; exact sys_words (i : Int) hp11.s).mono ?_
            rintro e w13 ⟨rfl, hb13⟩
            (try go_wp2_with fail)
            refine hK.out _ _ ?_ (fun hHeld => ?_)
            · exact bk_below hob7 (bstep (bstep (bstep hb79 hb10) hb11) hb13)
            clear hK KK
            try simp only [Act.put, List.setIfInBounds_toArray, List.set_cons_zero, List.set_cons_succ, List.getElem_toArray, List.getElem_cons_succ, List.getElem_cons_zero]
            refine wpAnyH_take (i := 44) (v := ?_) rfl (by kernel_rfl) (by kernel_rfl) (by kernel_rfl) (fun _ _ _ h => h) (Or.inl ⟨by rfl, ?_⟩) (by assumption) ?_
            rotate_left
            · intro W hSw; (try dsimp only at hSw); (try simp only [List.getElem_toArray, List.getElem_cons_succ, List.getElem_cons_zero]); go_simp; try with_reducible rfl
            try simp only [Act.put, List.setIfInBounds_toArray, List.set_cons_zero, List.set_cons_succ, List.getElem_toArray, List.getElem_cons_succ, List.getElem_cons_zero]
            refine wpAnyH_take (i := 45) (v := ?_) rfl (by kernel_rfl) (by kernel_rfl) (by kernel_rfl) (fun _ _ _ h => h) (Or.inl ⟨by rfl, ?_⟩) (by assumption) ?_
            rotate_left
            · intro W hSw; (try dsimp only at hSw); (try simp only [List.getElem_toArray, List.getElem_cons_succ, List.getElem_cons_zero]); go_simp; try with_reducible rfl
            try simp only [Act.put, List.setIfInBounds_toArray, List.set_cons_zero, List.set_cons_succ, List.getElem_toArray, List.getElem_cons_succ, List.getElem_cons_zero]
            refine wpAnyH_done (by kernel_rfl) ?_ _
            have hb7e := bstep (bstep (bstep hb79 hb10) hb11) hb13
            have hBB : Below w1.heap.size wr w13 := ((((bdrew HAL.out).mono (by omega)).trans hb7)).trans (hb7e.mono (Nat.le_of_lt hp7.s.size))
            have HBZ := Lib.hid (HBr.out.trans (hBB.mono (Nat.le_of_lt hw1)))
            have HVZ := Lib.hid (HVr.out.keep HI.out hBB hw1 HBZ.out)
            have HPZ := Lib.hid (hp7.below hb7e)
            clear hb7e hBB hp7 hp8 hp9 hp10 hp11 hb7 hk7 hob7 hd7 hy7 hy9 hb8 hb9 hb79 hb10 hb11 hb13 hHeld
            go_wp2_with fail
            exact ⟨⟨k + 1, by omega, by go_num, HBZ.out, HVZ.out, LL', HPZ.out⟩, by simp [intOf]; omega⟩
          · skip
            try simp only [List.getElem_toArray, List.getElem_cons_succ, List.getElem_cons_zero]
            go_simp
            refine hK.out _ _ ?_ (fun hHeld => ?_)
            · exact bk_below hob7 hb79
            clear hK KK
            try simp only [Act.put, List.setIfInBounds_toArray, List.set_cons_zero, List.set_cons_succ, List.getElem_toArray, List.getElem_cons_succ, List.getElem_cons_zero]
            refine wpAnyH_ready (rs := [31]) (by kernel_rfl) (by simp) ?_
            refine AllReadyH.cons rfl (fun KK hK => ?_) AllReadyH.nil
            try simp only [List.getElem_toArray, List.getElem_cons_succ, List.getElem_cons_zero]
            go_simp
            go_at_call 20
            refine (sys_room (i : Int) hp9.s).mono ?_
            rintro e w10 ⟨rfl, hb10⟩
            (try go_wp2_with fail)
            refine hK.out _ _ ?_ (fun hHeld => ?_)
            · exact bk_below hob7 (bstep hb79 hb10)
            clear hK KK
            try simp only [Act.put, List.setIfInBounds_toArray, List.set_cons_zero, List.set_cons_succ, List.getElem_toArray, List.getElem_cons_succ, List.getElem_cons_zero]
            have hp10 := hp9.below hb10
            refine wpAnyH_ready (rs := [35]) (by kernel_rfl) (by simp) ?_
            refine AllReadyH.cons rfl (fun KK hK => ?_) AllReadyH.nil
            try simp only [List.getElem_toArray, List.getElem_cons_succ, List.getElem_cons_zero]
            go_simp
            go_at_call 27
            refine (rroom_any (some ⟨b9, o9, none⟩) cC (i : Int) (hy9.below hb10) hp10.c hok).mono ?_
            rintro e w11 ⟨rfl, hb11⟩
            (try go_wp2_with fail)
            refine hK.out _ _ ?_ (fun hHeld => ?_)
            · exact bk_below hob7 (bstep (bstep hb79 hb10) hb11)
            clear hK KK
            try simp only [Act.put, List.setIfInBounds_toArray, List.set_cons_zero, List.set_cons_succ, List.getElem_toArray, List.getElem_cons_succ, List.getElem_cons_zero]
            have xR : (roomE C LL' (i : Int) == roomE C LL' (i : Int)) = true := by simp
            refine wpAnyH_take (i := 36) (v := ?_) rfl (by kernel_rfl) (by kernel_rfl) (by kernel_rfl) (fun _ _ _ h => h) (Or.inl ⟨by rfl, ?_⟩) (by assumption) ?_
            rotate_left
            · intro W hSw; (try dsimp only at hSw); have o0 := (bk_cell hSw 0).trans rfl; have o1 := (bk_cell hSw 1).trans rfl; have o2 := (bk_cell hSw 2).trans rfl; have o3 := (bk_cell hSw 3).trans rfl; (try simp only [List.getElem_toArray, List.getElem_cons_succ, List.getElem_cons_zero]); go_simp; try with_reducible rfl
            try simp only [Act.put, List.setIfInBounds_toArray, List.set_cons_zero, List.set_cons_succ, List.getElem_toArray, List.getElem_cons_succ, List.getElem_cons_zero]
            refine wpAnyH_take (i := 37) (v := ?_) rfl (by kernel_rfl) (by kernel_rfl) (by kernel_rfl) (fun _ _ _ h => h) (Or.inl ⟨by rfl, ?_⟩) (by assumption) ?_
            rotate_left
            · intro W hSw; (try dsimp only at hSw); have o0 := (bk_cell hSw 0).trans rfl; have o1 := (bk_cell hSw 1).trans rfl; have o2 := (bk_cell hSw 2).trans rfl; have o3 := (bk_cell hSw 3).trans rfl; (try simp only [List.getElem_toArray, List.getElem_cons_succ, List.getElem_cons_zero]); go_simp; try with_reducible rfl
            try simp only [Act.put, List.setIfInBounds_toArray, List.set_cons_zero, List.set_cons_succ, List.getElem_toArray, List.getElem_cons_succ, List.getElem_cons_zero]
            refine wpAnyH_take (i := 38) (v := ?_) rfl (by kernel_rfl) (by kernel_rfl) (by kernel_rfl) (fun _ _ _ h => h) (Or.inl ⟨by rfl, ?_⟩) (by assumption) ?_
            rotate_left
            · intro W hSw; (try dsimp only at hSw); have o0 := (bk_cell hSw 0).trans rfl; have o1 := (bk_cell hSw 1).trans rfl; have o2 := (bk_cell hSw 2).trans rfl; have o3 := (bk_cell hSw 3).trans rfl; (try simp only [List.getElem_toArray, List.getElem_cons_succ, List.getElem_cons_zero]); go_simp; try with_reducible rfl
            try simp only [Act.put, List.setIfInBounds_toArray, List.set_cons_zero, List.set_cons_succ, List.getElem_toArray, List.getElem_cons_succ, List.getElem_cons_zero]
            refine wpAnyH_take (i := 39) (v := ?_) rfl (by kernel_rfl) (by kernel_rfl) (by kernel_rfl) (fun _ _ _ h => h) (Or.inl ⟨by rfl, ?_⟩) (by assumption) ?_
            rotate_left
            · intro W hSw; (try dsimp only at hSw); have o0 := (bk_cell hSw 0).trans rfl; have o1 := (bk_cell hSw 1).trans rfl; have o2 := (bk_cell hSw 2).trans rfl; have o3 := (bk_cell hSw 3).trans rfl; (try simp only [List.getElem_toArray, List.getElem_cons_succ, List.getElem_cons_zero]); go_simp; try with_reducible rfl
            try simp only [Act.put, List.setIfInBounds_toArray, List.set_cons_zero, List.set_cons_succ, List.getElem_toArray, List.getElem_cons_succ, List.getElem_cons_zero]
            refine wpAnyH_take (i := 40) (v := ?_) rfl (by kernel_rfl) (by kernel_rfl) (by kernel_rfl) (fun _ _ _ h => h) (Or.inl ⟨by rfl, ?_⟩) (by assumption) ?_
            rotate_left
            · intro W hSw; (try dsimp only at hSw); have o0 := (bk_cell hSw 0).trans rfl; have o1 := (bk_cell hSw 1).trans rfl; have o2 := (bk_cell hSw 2).trans rfl; have o3 := (bk_cell hSw 3).trans rfl; (try simp only [List.getElem_toArray, List.getElem_cons_succ, List.getElem_cons_zero]); go_simp; try with_reducible rfl
            try simp only [Act.put, List.setIfInBounds_toArray, List.set_cons_zero, List.set_cons_succ, List.getElem_toArray, List.getElem_cons_succ, List.getElem_cons_zero]
            refine wpAnyH_take (i := 41) (v := ?_) rfl (by kernel_rfl) (by kernel_rfl) (by kernel_rfl) (fun _ _ _ h => h) (Or.inl ⟨by rfl, ?_⟩) (by assumption) ?_
            rotate_left
            · intro W hSw; (try dsimp only at hSw); have o0 := (bk_cell hSw 0).trans rfl; have o1 := (bk_cell hSw 1).trans rfl; have o2 := (bk_cell hSw 2).trans rfl; have o3 := (bk_cell hSw 3).trans rfl; (try simp only [List.getElem_toArray, List.getElem_cons_succ, List.getElem_cons_zero]); go_simp; try with_reducible rfl
            try simp only [Act.put, List.setIfInBounds_toArray, List.set_cons_zero, List.set_cons_succ, List.getElem_toArray, List.getElem_cons_succ, List.getElem_cons_zero]
            refine wpAnyH_take (i := 43) (v := ?_) rfl (by kernel_rfl) (by kernel_rfl) (by kernel_rfl) (fun _ _ _ h => h) (Or.inl ⟨by rfl, ?_⟩) (by assumption) ?_
            rotate_left
            · intro W hSw; (try dsimp only at hSw); have o0 := (bk_cell hSw 0).trans rfl; have o1 := (bk_cell hSw 1).trans rfl; have o2 := (bk_cell hSw 2).trans rfl; have o3 := (bk_cell hSw 3).trans rfl; (try simp only [List.getElem_toArray, List.getElem_cons_succ, List.getElem_cons_zero]); go_simp; try with_reducible rfl
            try simp only [Act.put, List.setIfInBounds_toArray, List.set_cons_zero, List.set_cons_succ, List.getElem_toArray, List.getElem_cons_succ, List.getElem_cons_zero]
            have hp11 := hp10.below hb11
            refine wpAnyH_ready (rs := [42]) (by kernel_rfl) (by simp) ?_
            refine AllReadyH.cons rfl (fun KK hK => ?_) AllReadyH.nil
            try simp only [List.getElem_toArray, List.getElem_cons_succ, List.getElem_cons_zero]
            go_simp
            go_at_call 28
            refine (show Calls Try.prog 28 #[.pointer (some ⟨K.X, 0, none⟩), .int .i64 (i : Int)] w11 fun e W' => e = .returned (.int .i64 (C.cw i)) ∧ Below w11.heap.size w11 W' from by rw [← HWV.out]; exact sys_words (i : Int) hp11.s).mono ?_
            rintro e w13 ⟨rfl, hb13⟩
            (try go_wp2_with fail)
            refine hK.out _ _ ?_ (fun hHeld => ?_)
            · exact bk_below hob7 (bstep (bstep (bstep hb79 hb10) hb11) hb13)
            clear hK KK
            try simp only [Act.put, List.setIfInBounds_toArray, List.set_cons_zero, List.set_cons_succ, List.getElem_toArray, List.getElem_cons_succ, List.getElem_cons_zero]
            refine wpAnyH_take (i := 44) (v := ?_) rfl (by kernel_rfl) (by kernel_rfl) (by kernel_rfl) (fun _ _ _ h => h) (Or.inl ⟨by rfl, ?_⟩) (by assumption) ?_
            rotate_left
            · intro W hSw; (try dsimp only at hSw); (try simp only [List.getElem_toArray, List.getElem_cons_succ, List.getElem_cons_zero]); go_simp; try with_reducible rfl
            try simp only [Act.put, List.setIfInBounds_toArray, List.set_cons_zero, List.set_cons_succ, List.getElem_toArray, List.getElem_cons_succ, List.getElem_cons_zero]
            refine wpAnyH_take (i := 45) (v := ?_) rfl (by kernel_rfl) (by kernel_rfl) (by kernel_rfl) (fun _ _ _ h => h) (Or.inl ⟨by rfl, ?_⟩) (by assumption) ?_
            rotate_left
            · intro W hSw; (try dsimp only at hSw); (try simp only [List.getElem_toArray, List.getElem_cons_succ, List.getElem_cons_zero]); go_simp; try with_reducible rfl
            try simp only [Act.put, List.setIfInBounds_toArray, List.set_cons_zero, List.set_cons_succ, List.getElem_toArray, List.getElem_cons_succ, List.getElem_cons_zero]
            refine wpAnyH_done (by kernel_rfl) ?_ _
            have hb7e := bstep (bstep (bstep hb79 hb10) hb11) hb13
            have hBB : Below w1.heap.size wr w13 := ((((bdrew HAL.out).mono (by omega)).trans hb7)).trans (hb7e.mono (Nat.le_of_lt hp7.s.size))
            have HBZ := Lib.hid (HBr.out.trans (hBB.mono (Nat.le_of_lt hw1)))
            have HVZ := Lib.hid (HVr.out.keep HI.out hBB hw1 HBZ.out)
            have HPZ := Lib.hid (hp7.below hb7e)
            clear hb7e hBB hp7 hp8 hp9 hp10 hp11 hb7 hk7 hob7 hd7 hy7 hy9 hb8 hb9 hb79 hb10 hb11 hb13 hHeld
            go_wp2_with fail
            exact ⟨⟨k + 1, by omega, by go_num, HBZ.out, HVZ.out, LL', HPZ.out⟩, by simp [intOf]; omega⟩
theorem ChansPlays_any (C : Cfg) (l : Lay) (fr : Int) (p : Option Addr) (n cap : Nat) (D P H : Nat → Int) (A : Nat → Option Addr) (CP : Nat → Nat) (Y : Nat → List Int) (w : World) (hI : IsC w C l) (hR : ScrW w p n D P H A CP Y) :
    Calls Try.prog 6 #[.agg (cfgV C l), .int .i64 fr, .slice p n cap] w fun e w' => e = .returned (.bool true) ∧ Below w.heap.size w w' := by
  by_cases h : longB C = true ∨ 100 < n
  · exact plays_long C l fr p n cap w h
  have hl : longB C = false := by cases hl : longB C <;> simp_all
  have hn : n ≤ 100 := by omega
  by_cases hf : fr < 1 ∨ 1024 < fr
  · exact plays_mem C l fr p n cap w hI hl hn hf
  obtain ⟨nF, rfl⟩ : ∃ m : Nat, fr = m := ⟨fr.toNat, by omega⟩
  by_cases hok : CkOk C
  · by_cases hs : nF < frE C
    · exact plays_small C l nF p n cap w hI hl hn (by omega) (by omega) hok hs
    · exact plays_in C l nF n cap p D P H A CP Y w hI hl hn (by omega) (by omega) hok (by omega) hR
  · exact plays_conf C l nF p n cap w hI hl hn (by omega) (by omega) hok
end Go.Proofs.Ytofkgceenppdbaa
