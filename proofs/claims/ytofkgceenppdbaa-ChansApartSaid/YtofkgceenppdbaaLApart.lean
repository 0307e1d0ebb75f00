/- The law ChansApart. -/
import Derived.Test.YtofkgceenppdbaaLApartP
import Derived.Test.YtofkgceenppdbaaLScr
namespace Go.Proofs.Ytofkgceenppdbaa
open Go.RowKit
set_option linter.unusedVariables false
set_option linter.unusedSimpArgs false
theorem rcheckv (C : Cfg) (pP pW pC : Option Addr) (cP cW cC : Nat) (w : World) (h : IsC w C ⟨pP, cP, pW, cW, pC, cC⟩) (hN : Big C) :
    Calls Try.prog 9 #[.agg #[.slice pP C.nP cP, .slice pW C.nW cW, .slice pC C.nC cC]] w fun e w' => e = .returned (.int .i64 (ckE C)) ∧ Below w.heap.size w w' := rcheck_any C ⟨pP, cP, pW, cW, pC, cC⟩ w h hN
theorem newv2 (L : Nat) (C : Cfg) (pP pW pC : Option Addr) (cP cW cC : Nat) (mm fb nF : Nat) (w : World) (hI : IsC w C ⟨pP, cP, pW, cW, pC, cC⟩) (hN : Big C) (hm : MemS w mm fb nF (fun _ => 0)) (hF : 1 ≤ nF) (hF3 : nF ≤ 1024) (hE : CkOk C) (hF2 : frE C ≤ nF) (h1 : L ≤ mm) (h2 : L ≤ fb) :
    Calls Try.prog 12 #[.pointer (some ⟨mm, 0, none⟩), .agg #[.slice pP C.nP cP, .slice pW C.nW cW, .slice pC C.nC cC]] w fun e w' => ∃ K, e = .returned (.tuple #[.pointer (some ⟨K.X, 0, none⟩), .int .i64 0]) ∧ Sys L w' C K (fun _ => []) (fun _ => 0) ∧ (K.mm = mm ∧ K.fb = fb ∧ K.nF = nF) ∧ From w.heap.size K.X K.lb C.nC K.R ∧ IsX w' C K (fun _ => 0) (fun _ => []) (fun _ => 0) ∧ Below w.heap.size w w' :=
  sys_new2 C ⟨pP, cP, pW, cW, pC, cC⟩ mm fb nF w hI hN hm hF hF3 hE hF2 h1 h2
theorem apart_out (C : Cfg) (l : Lay) (p : Option Addr) (n cap : Nat) (only : Int) (w : World) (hI : IsC w C l) (h : longB C = true ∨ ¬ CkOk C ∨ 60 < n) :
    Calls Try.prog 3 #[.agg (cfgV C l), .slice p n cap, .int .i64 only] w fun e w' => e = .returned (.bool true) ∧ Below w.heap.size w w' := by
  obtain ⟨pP, cP, pW, cW, pC, cC⟩ := l
  have HLC := Lib.hid fun (W : World) => longv C pP pW pC cP cW cC W
  have HI := Lib.hid hI
  unfold cfgV
  simp only
  cases hl : longB C
  · have hN := short_big hl
    rw [hl] at HLC
    have hck := fun (W : World) (h : IsC W C ⟨pP, cP, pW, cW, pC, cC⟩) => rcheckv C pP pW pC cP cW cC W h hN
    have h' : (ckE C ≠ 0) ∨ (ckE C = 0 ∧ (60 : Int) < n) := by
      rcases ckE_cases C with ⟨h1, h2⟩ | ⟨h1, h2⟩
      · rcases h with h | h | h
        · rw [hl] at h; cases h
        · exact absurd h1 h
        · omega
      · omega
    rcases h' with k1 | ⟨k1, k2⟩
    · obtain ⟨E, hE⟩ : ∃ E, ckE C = E := ⟨_, rfl⟩
      rw [hE] at hck k1
      have e1 : (E == 0) = false := beq_eq_false_iff_ne.2 k1
      have e2 : (E != 0) = true := by simpa using k1
      clear hE
      have HK := Lib.hid hck
      clear hck h hN k1 hI hl
      go_enter Try.func3, Try.ntmps3
      go_wp2_with fail
      refine (HLC.out _).mono ?_; rintro e w1 ⟨rfl, b1⟩
      have HB1 := Lib.hid (bstep (a := w) (by go_grown) b1)
      have HV := Lib.hid (show CV w1 w.heap.size C pP cP pW cW pC cC from ⟨bk_below (bk_new w _) b1, HI.out.below HB1.out⟩)
      clear b1
      obtain ⟨y0, y1, y2, y3⟩ := HV.out.cells
      go_wp2_with fail
      refine (HK.out _ HV.out.i).mono ?_; rintro e w2 ⟨rfl, b2⟩
      have HB2 := Lib.hid (bstep HB1.out b2)
      clear b2 y0 y1 y2 y3
      go_wp2_with fail
      refine (awake_any _).mono ?_; rintro e w3 ⟨rfl, b3⟩
      go_wp2
      go_ret
      exact ⟨rfl, bstep HB2.out b3⟩
    · rw [k1] at hck
      have HK := Lib.hid hck
      clear hck h hN k1 hI hl
      go_enter Try.func3, Try.ntmps3
      go_wp2_with fail
      refine (HLC.out _).mono ?_; rintro e w1 ⟨rfl, b1⟩
      have HB1 := Lib.hid (bstep (a := w) (by go_grown) b1)
      have HV := Lib.hid (show CV w1 w.heap.size C pP cP pW cW pC cC from ⟨bk_below (bk_new w _) b1, HI.out.below HB1.out⟩)
      clear b1
      obtain ⟨y0, y1, y2, y3⟩ := HV.out.cells
      go_wp2_with fail
      refine (HK.out _ HV.out.i).mono ?_; rintro e w2 ⟨rfl, b2⟩
      have HB2 := Lib.hid (bstep HB1.out b2)
      clear b2 y0 y1 y2 y3 HV
      go_wp2_with fail
      refine (awake_any _).mono ?_; rintro e w3 ⟨rfl, b3⟩
      go_wp2
      go_ret
      exact ⟨rfl, bstep HB2.out b3⟩
  · rw [hl] at HLC
    clear h hI hl
    go_enter Try.func3, Try.ntmps3
    go_wp2_with fail
    refine (HLC.out _).mono ?_; rintro e w1 ⟨rfl, b1⟩
    have HB1 := Lib.hid (bstep (a := w) (by go_grown) b1)
    clear b1
    go_wp2_with fail
    refine (awake_any _).mono ?_; rintro e w2 ⟨rfl, b2⟩
    go_wp2
    go_ret
    exact ⟨rfl, bstep HB1.out b2⟩
theorem CV.keep {w W W' : World} {L : Nat} {C : Cfg} {p q r : Option Addr} {c d k : Nat} (h : CV W w.heap.size C p c q d r k) (hI : IsC w C ⟨p, c, q, d, r, k⟩) (hb : Below L W W') (hg : w.heap.size < L) (hB : Below w.heap.size w W') : CV W' w.heap.size C p c q d r k :=
  ⟨(hb.block _ hg).trans h.h, hI.below hB⟩
theorem sl_lt {w : World} {q : IntKind} {a : Option Addr} {n : Nat} {f : Nat → Int} (h : Sl w q a n f) : ∀ b o, a = some ⟨b, o, none⟩ → 0 < n → b < w.heap.size := by
  intro b o e hn
  rcases h with h | ⟨b2, o2, e2, hc⟩
  · omega
  · rw [e] at e2
    simp only [Option.some.injEq, Addr.mk.injEq] at e2
    obtain ⟨rfl, _⟩ := e2
    exact block_lt_of_cell (hc 0 hn)
theorem sl_keptX {K : CX} {n : Nat} {W W' : World} {q : IntKind} {a : Option Addr} {m : Nat} {f : Nat → Int} (h : Sl W q a m f) (hk : KeptX K n W W') (hf : ∀ b o, a = some ⟨b, o, none⟩ → b ≠ K.fb ∧ ∀ i, i < n → b ≠ K.R i) : Sl W' q a m f := by
  rcases h with h | ⟨b, o, e, hc⟩
  · exact .inl h
  · obtain ⟨h1, h2⟩ := hf b o e
    obtain ⟨r, hr, hk⟩ := hk
    refine .inr ⟨b, o, e, fun i hi => hk.cell (hc i hi) ?_ h1⟩
    rcases hr with rfl | ⟨j, hj, rfl⟩
    · exact h1
    · exact h2 j hj
theorem recvX_le {L : Nat} {W : World} {C : Cfg} {K : CX} {LL : Nat → List (List Int)} {M0 : Nat → Int} {part ch : Int} (h : Sys L W C K LL M0) : (recvX C LL part ch).length ≤ 8 := by
  obtain ⟨aa, M, h1, _⟩ := h.x
  unfold recvX
  rcases mayE_cases C part ch false with h4 | h4 | ⟨h0, hc1, hc2, _⟩
  · rw [if_neg (by omega)]; simp
  · rw [if_neg (by omega)]; simp
  · rw [if_pos h0]
    have hi : ch.toNat < C.nC := by omega
    have hl := (h1.lies _ hi).1
    have hd := (cN_eq h1.ck hi).2.2.2.2.2
    rcases hL : LL ch.toNat with _ | ⟨x, L'⟩
    · simp
    · have := hl 0 x (by rw [hL]; rfl)
      show x.length ≤ 8
      omega
/-- both systems under way -/
structure AP (w : World) (Lw : Nat) (C : Cfg) (J K : CX) (only : Int) (pP pW pC : Option Addr) (cP cW cC : Nat) (W : World) : Prop where
  b : Below w.heap.size w W
  v : CV W w.heap.size C pP cP pW cW pC cC
  s : ∃ L1 L2, Sys Lw W C J L1 (mk99 1024) ∧ Sys Lw W C K L2 (fun _ => 0) ∧ (0 ≤ only → L1 only.toNat = L2 only.toNat)
set_option maxRecDepth 100000 in
set_option maxHeartbeats 4000000 in
theorem apart_in (C : Cfg) (l : Lay) (n cap : Nat) (p : Option Addr) (only : Int) (D P H : Nat → Int) (A : Nat → Option Addr) (CP : Nat → Nat) (Y : Nat → List Int) (w : World) (hI : IsC w C l) (hl : longB C = false) (hok : CkOk C) (hn : n ≤ 60) (hR : ScrW w p n D P H A CP Y) :
    Calls Try.prog 3 #[.agg (cfgV C l), .slice p n cap, .int .i64 only] w fun e w' => e = .returned (.bool true) ∧ Below w.heap.size w w' := by
  obtain ⟨pP, cP, pW, cW, pC, cC⟩ := l
  have hN := short_big hl
  have HLC := Lib.hid fun (W : World) => longv C pP pW pC cP cW cC W
  have hck := fun (W : World) (h : IsC W C ⟨pP, cP, pW, cW, pC, cC⟩) => rcheckv C pP pW pC cP cW cC W h hN
  rw [ckE_ok hok] at hck
  rw [hl] at HLC
  have HNW := Lib.hid fun (L mm fb : Nat) (W : World) (h : IsC W C ⟨pP, cP, pW, cW, pC, cC⟩) (hm : MemS W mm fb 1024 (fun _ => 0)) (h1 : L ≤ mm) (h2 : L ≤ fb) => newv2 L C pP pW pC cP cW cC mm fb 1024 W h hN hm (by decide) (by decide) hok (by have := hok.2; omega) h1 h2
  have HMN := Lib.hid fun (W : World) => mnew_ok 1024 W (by decide) (by decide)
  have HUN := Lib.hid fun (mm fb : Nat) (M : Nat → Int) (W : World) (h : IsC W C ⟨pP, cP, pW, cW, pC, cC⟩) (hm : MemS W mm fb 1024 M) (hM : ∀ i, i < 1024 * 32 → 0 ≤ M i ∧ M i < 4294967296) (h9 : ∀ j, j < 1024 * 32 → ¬ inWin C j → M j = m99 j) => show Calls Try.prog 17 #[.pointer (some ⟨mm, 0, none⟩), .agg #[.slice pP C.nP cP, .slice pW C.nW cW, .slice pC C.nC cC]] W fun e w' => e = .returned (.bool true) ∧ Below W.heap.size W w' from unt_any C ⟨pP, cP, pW, cW, pC, cC⟩ mm fb M W h hN hok hm hM h9
  have HK := Lib.hid hck
  have HI := Lib.hid hI
  have HRW := Lib.hid hR
  clear hck hI hl hR
  have HU := Lib.hid (show cfgV C ⟨pP, cP, pW, cW, pC, cC⟩ = #[.slice pP C.nP cP, .slice pW C.nW cW, .slice pC C.nC cC] from rfl)
  rw [HU.out]
  have a3 : ¬ (60 : Int) < n := by omega
  have hn16 := hok.1.N.2.2.2.2
  clear HU hok hN
  go_enter Try.func3, Try.ntmps3
  go_wp2_with fail
  refine (HLC.out _).mono ?_; rintro e w1 ⟨rfl, b1⟩
  have HB1 := Lib.hid (bstep (a := w) (by go_grown) b1)
  have HV := Lib.hid (show CV w1 w.heap.size C pP cP pW cW pC cC from ⟨bk_below (bk_new w _) b1, HI.out.below HB1.out⟩)
  clear b1
  obtain ⟨y0, y1, y2, y3⟩ := HV.out.cells
  go_wp2_with fail
  refine (HK.out _ HV.out.i).mono ?_; rintro e w2 ⟨rfl, b2⟩
  have HB2 := Lib.hid (bstep HB1.out b2)
  have HV2 := Lib.hid (HV.out.below b2)
  have hw2 : w.heap.size < w2.heap.size := HV2.out.cells.2.2.2
  clear b2 y0 y1 y2 y3 HV HB1 HK HLC
  go_wp2_with fail
  refine (HMN.out _).mono ?_; rintro e w3 ⟨m1, f1, rfl, hm, hm1, hf1, b3⟩
  have HM3 := Lib.hid hm
  have HB3 := Lib.hid (bstep HB2.out b3)
  have HV3 := Lib.hid (HV2.out.below b3)
  obtain ⟨ml1, fl1⟩ := hm.lts
  clear hm b3 HV2
  go_wp2_with fail
  refine (HMN.out _).mono ?_; rintro e w4 ⟨m2, f2, rfl, hm, hm2, hf2, b4⟩
  have HM4 := Lib.hid hm
  have HN4 := Lib.hid (HM3.out.below b4)
  have HB4 := Lib.hid (bstep HB3.out b4)
  have HV4 := Lib.hid (HV3.out.below b4)
  obtain ⟨ml2, fl2⟩ := hm.lts
  have hz4 := b4.size
  clear hm b4 HV3 HM3 HB3
  obtain ⟨y0, y1, y2, y3⟩ := HV4.out.cells
  go_wp2_with fail
  refine (HNW.out w2.heap.size m1 f1 w4 HV4.out.i HN4.out hm1 hf1).mono ?_; rintro e w5 ⟨J, rfl, hs, ⟨j1, j2, j3⟩, hfr1, hx5, b5⟩
  have hz5 := b5.size
  have HX5 := Lib.hid hx5
  clear hx5
  have HS5 := Lib.hid hs
  have HB5 := Lib.hid (bstep HB4.out b5)
  have HV5 := Lib.hid (HV4.out.below b5)
  have HM5 := Lib.hid (HM4.out.below b5)
  have HL5 := Lib.hid (show w.heap.size ≤ w2.heap.size from HB2.out.size)
  have HF1 := Lib.hid hfr1
  have HJ := Lib.hid (show (J.X < w5.heap.size) ∧ (∀ i, i < C.nC → J.R i < w5.heap.size ∧ J.lb < w5.heap.size) from by
    obtain ⟨aa, M, h1, _⟩ := hs.x
    exact ⟨bk_lt h1.hX, fun i hi => ⟨bk_lt (h1.ring i hi), block_lt_of_cell (h1.row i hi 0 (by decide))⟩⟩)
  clear hs b5 HV4 HM4 HN4 y0 y1 y2 y3 hfr1 HB4
  obtain ⟨y0, y1, y2, y3⟩ := HV5.out.cells
  go_wp2_with fail
  refine (HNW.out w2.heap.size m2 f2 w5 HV5.out.i HM5.out (by omega) (by omega)).mono ?_; rintro e w6 ⟨K, rfl, hs, ⟨k1, k2, k3⟩, hfr2, _, b6⟩
  have HX6 := Lib.hid (HX5.out.below b6)
  have HT6 := Lib.hid hs
  have HS6 := Lib.hid (HS5.out.below b6)
  have HB6 := Lib.hid (bstep HB5.out b6)
  have HV6 := Lib.hid (HV5.out.below b6)
  have HJK := Lib.hid (show Apt J K C.nC from by
    obtain ⟨g1, g2, g3⟩ := hfr2
    refine ⟨⟨by omega, by omega, by omega, by omega, fun i hi => by have := g3 i hi; omega⟩, fun j hj => ?_⟩
    have h1 := (HJ.out.2 j hj).1
    have h2 := HF1.out.2.2 j hj
    exact ⟨by omega, by omega, by omega, by omega, fun i hi => by have := g3 i hi; omega⟩)
  have HKJ := Lib.hid (show Apt K J C.nC from by
    obtain ⟨g1, g2, g3⟩ := HF1.out
    obtain ⟨e1, e2, e3⟩ := hfr2
    have h0 := HJ.out.1
    refine ⟨⟨by omega, by omega, by omega, by omega, fun i hi => by have := g3 i hi; omega⟩, fun j hj => ?_⟩
    have h1 := e3 j hj
    have h3 := (HJ.out.2 j hj).2
    exact ⟨by omega, by omega, by omega, by omega, fun i hi => by have := (HJ.out.2 i hi).1; omega⟩)
  clear hs b6 HV5 HM5 y0 y1 y2 y3 hfr2 HB5 HS5 HNW HMN HF1 HJ HX5
  obtain ⟨y0, y1, y2, y3⟩ := HV6.out.cells
  go_wp2_with fail
  go_loopw [15] (fun iv W' => ∃ k : Nat, k ≤ 1024 ∧ iv = .int .i64 k ∧ Below w.heap.size w W' ∧ CV W' w.heap.size C pP cP pW cW pC cC ∧ IsX W' C J (fun _ => 0) (fun _ => []) (mk99 k) ∧ Sys w2.heap.size W' C K (fun _ => []) (fun _ => 0)) (fun iv _ => 1024 - (intOf iv).toNat)
  case atStart => exact ⟨0, by omega, rfl, HB6.out, HV6.out, by rw [mk99_zero]; exact HX6.out, HT6.out⟩
  case round =>
    obtain ⟨k, hk, rfl, hb, hv, hx, ht⟩ := hrel
    have HB := Lib.hid hb
    have HV := Lib.hid hv
    have HX := Lib.hid hx
    have HT := Lib.hid ht
    have hwr := hv.cells.2.2.2
    clear hb hv hx ht y0 y1 y2 y3
    by_cases hkn : k < 1024
    · have hkn' : (k : Int) < 1024 := by omega
      have hmem := HX.out.mem
      rw [j1, j2, j3] at hmem
      have hwt := mwrite_any m1 f1 1024 k 7 (mk99 k) 99 wr hmem hkn (by decide)
      rw [mk99_succ] at hwt
      have HW := Lib.hid hwt
      clear hmem hwt
      go_wp2_with fail
      refine HW.out.mono ?_; rintro e w8 ⟨rfl, hm8, hk8⟩
      have hx8 : IsX w8 C J (fun _ => 0) (fun _ => []) (mk99 (k + 1)) := HX.out.write (by rw [j1, j2, j3]; exact hm8) (by rw [j2]; exact hk8)
      have ht8 := HT.out.keptX (J := J) ⟨J.fb, .inl rfl, by rw [j2]; exact hk8.two1⟩ HJK.out
      have hb8 : Below w.heap.size w w8 := hk8.below HB.out (by have := HL5.out; omega) HB.out.size
      have hv8 : CV w8 w.heap.size C pP cP pW cW pC cC := HV.out.keep HI.out (hk8.below (Below.refl w2.heap.size wr) (by omega) (Nat.le_of_lt HT.out.size)) hw2 hb8
      have HX8 := Lib.hid hx8
      have HT8 := Lib.hid ht8
      have HB8 := Lib.hid hb8
      have HV8 := Lib.hid hv8
      clear hm8 hk8 hx8 ht8 hb8 hv8
      go_wp2_with fail
      exact ⟨⟨k + 1, by omega, by go_num, HB8.out, HV8.out, HX8.out, HT8.out⟩, by simp [intOf]; omega⟩
    · obtain rfl : k = 1024 := by omega
      have hnn : ¬ ((1024 : Nat) : Int) < 1024 := by omega
      obtain ⟨wo, rfl⟩ : ∃ wo : World, wo = wr := ⟨_, rfl⟩
      have HJS := Lib.hid (show Sys w2.heap.size wo C J (fun _ => []) (mk99 1024) from ⟨⟨_, _, HX.out, fun _ _ => rfl⟩, HS6.out.lo⟩)
      go_wp2_with fail
      clear HX HS6 HT6 HV6 HB6 HX6 HB2
      go_loopw [16] (fun iv W' => ∃ i : Nat, i ≤ n ∧ iv = .int .i64 i ∧ AP w w2.heap.size C J K only pP pW pC cP cW cC W') (fun iv _ => n - (intOf iv).toNat)
      case atStart => exact ⟨0, by omega, rfl, HB.out, HV.out, _, _, HJS.out, HT.out, fun _ => rfl⟩
      case round =>
        obtain ⟨i, hi, rfl, hap⟩ := hrel
        obtain ⟨hb, hv, L1, L2, hs1, hs2, heq⟩ := hap
        have HBr := Lib.hid hb
        have HVr := Lib.hid hv
        have HS1 := Lib.hid hs1
        have HS2 := Lib.hid hs2
        have HEQ := Lib.hid heq
        have hwz := hv.cells.2.2.2
        clear hb hv hs1 hs2 heq HB HV HT HJS
        by_cases hin : i < n
        · have hin' : (i : Int) < n := by omega
          have hi0 : (0 : Int) ≤ (i : Int) := by omega
          rcases HRW.out with h0 | ⟨rb, ro, rfl, hrw⟩
          · omega
          obtain ⟨⟨t0, t1, t2, t3⟩, u1, u2, u3, _⟩ := hrw i hin
          have c0 := keepc HBr.out t0
          have c1 := keepc HBr.out t1
          have c2 := keepc HBr.out t2
          have c3 := keepc HBr.out t3
          have HU1 := Lib.hid u1
          have HU2 := Lib.hid u2
          clear t0 t1 t2 t3 u1 u2 hrw
          generalize D i = d at *
          generalize P i = pt at *
          generalize H i = ch at *
          generalize A i = q at *
          generalize CP i = cp at *
          generalize Y i = xs at *
          by_cases h100 : 100 < xs.length
          · have h100' : (100 : Int) < xs.length := by omega
            go_wp2_with fail
            refine (awake_any _).mono ?_; rintro e w12 ⟨rfl, b12⟩
            go_wp2
            go_ret
            exact ⟨rfl, (HBr.out.alloc HBr.out.size _).trans (b12.mono (by rw [World.size_alloc]; have := HBr.out.size; omega))⟩
          · have h100' : ¬ (100 : Int) < xs.length := by omega
            have hob := bk_new wr (.cells #[.int .i64 d, .int .i64 pt, .int .i64 ch, .slice q xs.length cp] 43)
            have hal : Below wr.heap.size wr (wr.alloc (.cells #[.int .i64 d, .int .i64 pt, .int .i64 ch, .slice q xs.length cp] 43)) := (Below.refl _ _).alloc (Nat.le_refl _) _
            have HOB := Lib.hid hob
            have HBa := Lib.hid (bstep HBr.out hal)
            have HVa := Lib.hid (HVr.out.below hal)
            have HSa := Lib.hid (HS1.out.below hal)
            have HTa := Lib.hid (HS2.out.below hal)
            have HFJ := Lib.hid (HS1.out.fresh (Nat.le_refl _))
            have HFK := Lib.hid (HS2.out.fresh (Nat.le_refl _))
            have HQ := Lib.hid (show ∀ b o, q = some ⟨b, o, none⟩ → 0 < xs.length → b < w2.heap.size from fun b o e h0 => Nat.lt_trans (sl_lt HU1.out b o e h0) hw2)
            clear hob hal HVr HBr HS1 HS2
            by_cases hd : d = 1
            · subst hd
              obtain ⟨E, hE⟩ : ∃ E, sendE C L1 pt ch xs.length = E := ⟨_, rfl⟩
              have hc1 := sys_send2 pt ch q xs cp HSa.out (HU1.out.below HBa.out) HU2.out HQ.out
              rw [hE] at hc1
              have HC1 := Lib.hid hc1
              clear hc1
              go_wp2_with fail
              refine HC1.out.mono ?_; rintro e w8 ⟨rfl, hs8, hb8, hk8⟩
              have HSx := Lib.hid hs8
              have HTx := Lib.hid (HTa.out.keptX hk8 HJK.out)
              have HBx := Lib.hid (HBa.out.trans (hb8.mono HL5.out))
              have HVx := Lib.hid (HVa.out.keep HI.out hb8 hw2 HBx.out)
              have HOx := Lib.hid (hk8.blk HOB.out HFJ.out.1 HFJ.out.2)
              clear hs8 hb8 hk8 HC1 c0 c1 c2 c3 HSa HTa HBa HVa HOB
              have o0 : w8.cell? ⟨wr.heap.size, 0, none⟩ = some (.int .i64 1) := (bk_cell HOx.out 0).trans rfl
              have o1 : w8.cell? ⟨wr.heap.size, 1, none⟩ = some (.int .i64 pt) := (bk_cell HOx.out 1).trans rfl
              have o2 : w8.cell? ⟨wr.heap.size, 2, none⟩ = some (.int .i64 ch) := (bk_cell HOx.out 2).trans rfl
              have o3 : w8.cell? ⟨wr.heap.size, 3, none⟩ = some (.slice q xs.length cp) := (bk_cell HOx.out 3).trans rfl
              by_cases ho : ch = only
              · subst ho
                have eE := sendE_congr (C := C) (part := pt) (n := xs.length) HEQ.out
                have hc2 := sys_send2 pt ch q xs cp HTx.out (HU1.out.below HBx.out) HU2.out HQ.out
                rw [← eE, hE] at hc2
                have HC2 := Lib.hid hc2
                have x1 : (ch == ch) = true := by simp
                have x2 : (E == E) = true := by simp
                clear hc2 eE hE
                go_wp2_with fail
                refine HC2.out.mono ?_; rintro e w9 ⟨rfl, hs9, hb9, hk9⟩
                have HTy := Lib.hid hs9
                have HSy := Lib.hid (HSx.out.keptX hk9 HKJ.out)
                have HBy := Lib.hid (HBx.out.trans (hb9.mono HL5.out))
                have HVy := Lib.hid (HVx.out.keep HI.out hb9 hw2 HBy.out)
                clear hs9 hb9 hk9 HC2 o0 o1 o2 o3 HSx HTx HBx HVx
                go_wp2_with fail
                refine (same_yes none none 0 0 [] _ (.inl rfl) (.inl rfl) (by simp)).mono ?_; rintro e w10 ⟨rfl, b10⟩
                have HSz := Lib.hid (HSy.out.below b10)
                have HTz := Lib.hid (HTy.out.below b10)
                have HBz := Lib.hid (bstep HBy.out b10)
                have HVz := Lib.hid (HVy.out.below b10)
                clear b10 HSy HTy HBy HVy
                go_wp2_with fail
                exact ⟨⟨i + 1, by omega, by go_num, HBz.out, HVz.out, _, _, HSz.out, HTz.out, fun h0 => sendL_congr HEQ.out h0⟩, by simp [intOf]; omega⟩
              · have x1 : (ch == only) = false := beq_eq_false_iff_ne.2 ho
                have x2 : (ch != only) = true := by rw [bne, x1]; rfl
                clear hE
                go_wp2_with fail
                exact ⟨⟨i + 1, by omega, by go_num, HBx.out, HVx.out, _, _, HSx.out, HTx.out, fun h0 => (sendL_far ho h0).trans (HEQ.out h0)⟩, by simp [intOf]; omega⟩
            · have hd1 : (d == 1) = false := beq_eq_false_iff_ne.2 hd
              obtain ⟨E, hE⟩ : ∃ E, recvE C L1 pt ch = E := ⟨_, rfl⟩
              obtain ⟨zs, hzs⟩ : ∃ zs, recvX C L1 pt ch = zs := ⟨_, rfl⟩
              have hz8 : zs.length ≤ 8 := by rw [← hzs]; exact recvX_le HSa.out
              have hc1 := sys_recv2 pt ch HSa.out
              rw [hE, hzs] at hc1
              have HC1 := Lib.hid hc1
              clear hc1
              go_wp2_with fail
              refine HC1.out.mono ?_; rintro e w8 ⟨pa, pc, rfl, hl8, hn8, hs8, hb8, hk8⟩
              have HFX := Lib.hid (show ∀ b o, pa = some ⟨b, o, none⟩ → b ≠ K.fb ∧ ∀ i, i < C.nC → b ≠ K.R i from fun b o e => HTa.out.fresh (hn8 b o e).1)
              have HSx := Lib.hid hs8
              have HLx := Lib.hid hl8
              have HTx := Lib.hid (HTa.out.keptX hk8 HJK.out)
              have HBx := Lib.hid (HBa.out.trans (hb8.mono HL5.out))
              have HVx := Lib.hid (HVa.out.keep HI.out hb8 hw2 HBx.out)
              have HOx := Lib.hid (hk8.blk HOB.out HFJ.out.1 HFJ.out.2)
              clear hl8 hn8 hs8 hb8 hk8 HC1 c0 c1 c2 c3 HSa HTa HBa HVa HOB
              have o0 : w8.cell? ⟨wr.heap.size, 0, none⟩ = some (.int .i64 d) := (bk_cell HOx.out 0).trans rfl
              have o1 : w8.cell? ⟨wr.heap.size, 1, none⟩ = some (.int .i64 pt) := (bk_cell HOx.out 1).trans rfl
              have o2 : w8.cell? ⟨wr.heap.size, 2, none⟩ = some (.int .i64 ch) := (bk_cell HOx.out 2).trans rfl
              by_cases ho : ch = only
              · subst ho
                have eE := recvE_congr (C := C) (part := pt) HEQ.out
                have eX := recvX_congr (C := C) (part := pt) HEQ.out
                have hc2 := sys_recv2 pt ch HTx.out
                rw [← eE, ← eX, hE, hzs] at hc2
                have HC2 := Lib.hid hc2
                have x1 : (ch == ch) = true := by simp
                have x2 : (E == E) = true := by simp
                clear hc2 eE eX hE hzs
                go_wp2_with fail
                refine HC2.out.mono ?_; rintro e w9 ⟨pb, pd, rfl, hl9, hn9, hs9, hb9, hk9⟩
                have HTy := Lib.hid hs9
                have HSy := Lib.hid (HSx.out.keptX hk9 HKJ.out)
                have HBy := Lib.hid (HBx.out.trans (hb9.mono HL5.out))
                have HVy := Lib.hid (HVx.out.keep HI.out hb9 hw2 HBy.out)
                have HLy := Lib.hid hl9
                have HLw := Lib.hid (show Sl w9 .u32 pa zs.length (fun i => zs.getD i 0) from sl_keptX HLx.out hk9 HFX.out)
                clear hs9 hl9 hn9 hb9 hk9 HC2 o0 o1 o2 HSx HTx HBx HVx HLx
                go_wp2_with fail
                refine (same_yes pa pb pc pd zs _ HLw.out HLy.out (by omega)).mono ?_; rintro e w10 ⟨rfl, b10⟩
                have HSz := Lib.hid (HSy.out.below b10)
                have HTz := Lib.hid (HTy.out.below b10)
                have HBz := Lib.hid (bstep HBy.out b10)
                have HVz := Lib.hid (HVy.out.below b10)
                clear b10 HSy HTy HBy HVy
                go_wp2_with fail
                exact ⟨⟨i + 1, by omega, by go_num, HBz.out, HVz.out, _, _, HSz.out, HTz.out, fun h0 => recvL_congr HEQ.out h0⟩, by simp [intOf]; omega⟩
              · have x1 : (ch == only) = false := beq_eq_false_iff_ne.2 ho
                have x2 : (ch != only) = true := by rw [bne, x1]; rfl
                clear hE hzs
                go_wp2_with fail
                exact ⟨⟨i + 1, by omega, by go_num, HBx.out, HVx.out, _, _, HSx.out, HTx.out, fun h0 => (recvL_far ho h0).trans (HEQ.out h0)⟩, by simp [intOf]; omega⟩
        · obtain rfl : i = n := by omega
          have hnn2 : ¬ (i : Int) < i := by omega
          obtain ⟨y0, y1, y2, y3⟩ := HVr.out.cells
          obtain ⟨aa, M, hx, hM⟩ := HS1.out.x
          have hmem := hx.mem
          have hbd := hx.bd
          rw [j1, j2, j3] at hmem
          rw [j3] at hbd
          have HMM := Lib.hid hmem
          have HBD := Lib.hid hbd
          have HM9 := Lib.hid (show ∀ j, j < 1024 * 32 → ¬ inWin C j → M j = m99 j from fun j h1 h2 => (hM j h2).trans (mk99_end h1))
          clear hx hM hmem hbd
          go_wp2_with fail
          refine (HUN.out m1 f1 M _ HVr.out.i HMM.out HBD.out HM9.out).mono ?_; rintro e w9 ⟨rfl, b9⟩
          have HB9 := Lib.hid (bstep HBr.out b9)
          clear b9 y0 y1 y2 y3
          go_wp2_with fail
          refine (awake_any _).mono ?_; rintro e w12 ⟨rfl, b12⟩
          go_wp2
          go_ret
          exact ⟨rfl, bstep HB9.out b12⟩
theorem ChansApart_any (C : Cfg) (l : Lay) (p : Option Addr) (n cap : Nat) (D P H : Nat → Int) (A : Nat → Option Addr) (CP : Nat → Nat) (Y : Nat → List Int) (only : Int) (w : World) (hI : IsC w C l) (hR : ScrW w p n D P H A CP Y) :
    Calls Try.prog 3 #[.agg (cfgV C l), .slice p n cap, .int .i64 only] w fun e w' => e = .returned (.bool true) ∧ Below w.heap.size w w' := by
  by_cases h : longB C = true ∨ ¬ CkOk C ∨ 60 < n
  · exact apart_out C l p n cap only w hI h
  · exact apart_in C l n cap p only D P H A CP Y w hI (by cases hl : longB C <;> simp_all) (by exact Classical.byContradiction fun h' => h (.inr (.inl h'))) (by omega) hR
end Go.Proofs.Ytofkgceenppdbaa
