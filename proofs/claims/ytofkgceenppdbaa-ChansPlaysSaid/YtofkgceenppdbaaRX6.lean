/- The reference's Recv of channels. -/
import Derived.Test.YtofkgceenppdbaaRX5
namespace Go.Proofs.Ytofkgceenppdbaa
open Go.RowKit
set_option linter.unusedVariables false
set_option linter.unusedSimpArgs false
theorem RefY.mono {w : World} {P : Nat → Prop} {C : Cfg} {p : Option Addr} {b cap : Nat} {q : Nat → Option Addr} {cp out : Nat → Nat} {V : Nat → List Value} {t t' : Nat} {LL : Nat → List (List Int)} (h : RefY w P C p b cap q cp out V t LL) (ht : t ≤ t') : RefY w P C p b cap q cp out V t' LL :=
  ⟨h.hp, h.capl, h.pn, h.row, fun i hi => Nat.le_trans (h.out i hi) ht, h.msg, h.le⟩
set_option maxRecDepth 100000 in
set_option maxHeartbeats 4000000 in
theorem rxrecv_any (C : Cfg) (pC : Option Addr) (cC t g Lg : Nat) (LL : Nat → List (List Int)) (part ch : Int) (w : World) (hx : RefX w g Lg C pC cC t LL) (hC : Sl4 w pC C.nC C.cf C.ct C.cc C.cw) (hok : CkOk C) (ht : t ≤ 1000) :
    Calls Try.prog 50 #[.pointer (some ⟨g, 0, none⟩), .int .i64 part, .int .i64 ch] w fun e w' => ∃ a c, e = .returned (.tuple #[.slice a (recvX C LL part ch).length c, .int .i64 (recvE C LL part ch)]) ∧ Sl w' .u32 a (recvX C LL part ch).length (fun t => (recvX C LL part ch).getD t 0) ∧ RefX w' g Lg C pC cC (t + 1) (recvL C LL part ch) ∧ Kept g w w' := by
  obtain ⟨hLg, p, b, cap, q, cp, out, V, hd, hy⟩ := hx
  have hn16 := hok.1.N.2.2.2.2
  have hm := fun (W : World) (h : Sl4 W pC C.nC C.cf C.ct C.cc C.cw) => rmay_any C pC p cC C.nC cap part ch false W h hn16
  have g0 : w.cell? ⟨g, 0, none⟩ = some (.slice pC C.nC cC) := (bk_cell hd 0).trans rfl
  have g1 : w.cell? ⟨g, 1, none⟩ = some (.slice p C.nC cap) := (bk_cell hd 1).trans rfl
  have hgl := bk_lt hd
  have HC := Lib.hid hC
  have HD := Lib.hid hd
  have HY := Lib.hid hy
  by_cases h0 : mayE C part ch false = 0
  case neg =>
    have e1 : recvE C LL part ch = mayE C part ch false := if_neg h0
    have e2 : recvL C LL part ch = LL := if_neg h0
    have e3 : recvX C LL part ch = [] := if_neg h0
    rw [e1, e2, e3]
    obtain ⟨E, hE⟩ : ∃ E, mayE C part ch false = E := ⟨_, rfl⟩
    rw [hE] at hm h0
    rw [hE]
    have x1 : (E == 0) = false := beq_eq_false_iff_ne.2 h0
    have x2 : (E != 0) = true := by rw [bne, x1]; rfl
    have HM := Lib.hid hm
    clear hm hE h0 hC hy hd
    go_enter Try.func50, Try.ntmps50
    go_wp2_with fail
    refine (HM.out _ HC.out).mono ?_; rintro e w1 ⟨rfl, hb⟩
    go_wp2
    go_ret2
    exact ⟨none, 0, by simp, .inl rfl, ⟨hLg, p, b, cap, q, cp, out, V, bk_below HD.out hb, (HY.out.below hb).mono (Nat.le_succ _)⟩, .of_below hb⟩
  case pos =>
    rcases mayE_cases C part ch false with h4 | h4 | ⟨_, hc1, hc2, hp⟩
    · omega
    · omega
    obtain ⟨i, rfl⟩ : ∃ i : Nat, ch = i := ⟨ch.toNat, by omega⟩
    have hi : i < C.nC := by omega
    have e1 : recvE C LL part i = if LL i = [] then 12 else 0 := by unfold recvE; rw [if_pos h0, Int.toNat_natCast]
    have e2 : recvL C LL part i = updL LL i (LL i).tail := by unfold recvL; rw [if_pos h0, Int.toNat_natCast]
    have e3 : recvX C LL part i = (LL i).headD [] := by unfold recvX; rw [if_pos h0, Int.toNat_natCast]
    obtain ⟨X, hX⟩ : ∃ X, (LL i).headD [] = X := ⟨_, rfl⟩
    obtain ⟨T, hT⟩ : ∃ T, (LL i).tail = T := ⟨_, rfl⟩
    obtain ⟨EE, hE⟩ : ∃ EE, (if LL i = [] then (12 : Int) else 0) = EE := ⟨_, rfl⟩
    rw [e1, e2, e3, hX, hT, hE]
    have HX := Lib.hid hX
    have HT := Lib.hid hT
    have HE := Lib.hid hE
    rw [h0] at hm
    have HM := Lib.hid hm
    have HSL := Lib.hid (show T.length ≤ cN C i by have := hy.le i hi; rw [← hT, List.length_tail]; omega)
    have hob := hy.out i hi
    have HP := Lib.hid hy.pn
    have d1 : (i : Int) < C.nC := by omega
    clear hm e1 e2 e3 hX hT hE h0 hp hC hy hd
    go_enter Try.func50, Try.ntmps50
    go_wp2_with fail
    refine (HM.out _ HC.out).mono ?_; rintro e w1 ⟨rfl, hb⟩
    have HB1 := Lib.hid hb
    have HB1' := Lib.hid hb
    have HD1 := Lib.hid (bk_below HD.out hb)
    have HY1 := Lib.hid (HY.out.below hb)
    have g0' : w1.cell? ⟨g, 0, none⟩ = some (.slice pC C.nC cC) := (bk_cell HD1.out 0).trans rfl
    have g1' : w1.cell? ⟨g, 1, none⟩ = some (.slice p C.nC cap) := (bk_cell HD1.out 1).trans rfl
    have gf := bk_frozen HD1.out 1
    have hgl1 := bk_lt HD1.out
    have HSF := Lib.hid (show SlF w1 4 p C.nC (rf C q (fun i => (LL i).length) cp out) from .inr ⟨b, 0, (HY1.out.hp (by omega)).1, fun j hj r hr => by rw [Nat.zero_add]; exact HY1.out.row j hj r hr⟩)
    clear hb g0 g1 hgl HD HM
    go_wp2_with (at_builtin; refine appF rfl _ _ _ rfl keR (.slice (some ⟨w1.heap.size, 0, none⟩) 0 0) 0 [] (by rfl) (ownF_none (Nat.le_refl _)) p C.nC cap (rf C q (fun i => (LL i).length) cp out) (by rfl) HP.out (HSF.out.below ((Below.refl _ _).alloc (Nat.le_refl _) _)) (fun i r _ => rf_one C _ _ _ _ i r) (by omega) (by simp) ?c1)
    case c1 =>
      intro v2 w2 o2 b2 g2
      (try rw [List.nil_append, Nat.zero_add] at o2)
      obtain ⟨a, c, rfl, hsl, hab, hanil, hcl⟩ := ownF_sl o2
      rcases hsl with h0 | ⟨b1, o1, rfl, hrow⟩
      · omega
      obtain ⟨hb1, hb1l, rfl⟩ := hab b1 o1 rfl
      obtain ⟨cur, hcur, hcs⟩ := ownF_blk o2
      have hb12 : Below w1.heap.size w1 w2 := ((Below.refl w1.heap.size w1).alloc (Nat.le_refl _) _).trans b2
      have hd2 := bk_below HD1.out hb12
      have f2 := bk_frozen hd2 1
      have c2 : w2.cell? ⟨g, 1, none⟩ = some (.slice p C.nC cap) := (bk_cell hd2 1).trans rfl
      have HD2 := Lib.hid hd2
      have HB12 := Lib.hid hb12
      have HROW := Lib.hid hrow
      have HCUR := Lib.hid hcur
      have hgb : RP Lg g b1 := ⟨by omega, by omega⟩
      have hgb' : b1 ≠ g := by omega
      clear o2 b2 g2 hab hanil hcur hrow hb12 hd2 g0' g1' gf HSF
      go_upto_region 5 with fail
      refine wp_abs (fun U => U.heap[g]? = some (.cells #[.slice pC C.nC cC, .slice (some ⟨b1, 0, none⟩) C.nC c] 61 (0, 0)) ∧ U.heap[b1]? = some (.cells cur 99 (0, 0)) ∧ (∀ j, j < C.nC → ∀ r, r < 4 → U.cell? ⟨b1, j * 4 + r, none⟩ = some (rf C q (fun i => (LL i).length) cp out j r)) ∧ Kept g w U) ?_ ?_
      · have hk : Kept g w2 (w2.setCell ⟨g, 1, none⟩ (.slice (some ⟨b1, 0, none⟩) C.nC c)) := (Kept.refl _ _).setCell 1 _
        exact ⟨bk_set HD2.out 1 _, hk.blk HCUR.out (by omega), fun j hj r hr => by have := HROW.out j hj r hr; rw [Nat.zero_add] at this; exact hk.cell this (by omega), ((Kept.of_below HB1.out).trans (.of_below HB12.out)).trans hk⟩
      clear f2 c2
      rintro U ⟨u1, u2, u3, u4⟩
      have HYU := Lib.hid (HY.out.kept RP.not u4)
      have HKU := Lib.hid u4
      have HDU := Lib.hid u1
      have HCU := Lib.hid u2
      have HRU := Lib.hid u3
      have hrr := r_recv C i (fun b => RP Lg g b ∧ b < w.heap.size) (out i) (cp i) (q i) (V i) (LL i) U hok hi ((HY.out.msg i hi).keep (fun b o v hb hc => ⟨⟨hb, block_lt_of_cell hc⟩, u4.cell hc hb.2⟩)) (by omega)
      rw [HX.out, HT.out, HE.out] at hrr
      have HR := Lib.hid hrr
      clear hrr
      have r0 : U.cell? ⟨b1, i * 4, none⟩ = some (.int .i64 (C.cc i)) := u3 i hi 0 (by decide)
      have r1 : U.cell? ⟨b1, i * 4 + 1, none⟩ = some (.int .i64 (C.cw i)) := u3 i hi 1 (by decide)
      have r2 : U.cell? ⟨b1, i * 4 + 2, none⟩ = some (.slice (q i) (LL i).length (cp i)) := u3 i hi 2 (by decide)
      have r3 : U.cell? ⟨b1, i * 4 + 3, none⟩ = some (.int .i64 (out i)) := u3 i hi 3 (by decide)
      have c1' : U.cell? ⟨g, 1, none⟩ = some (.slice (some ⟨b1, 0, none⟩) C.nC c) := (bk_cell u1 1).trans rfl
      have hub := bk_lt u2
      clear u1 u2 u3 u4 HROW HCUR HB12 HD2 HY1 HD1 HB1
      go_wp2_with fail
      refine HR.out.mono ?_; rintro e w5 ⟨ma, mc, rfl, hms, q', cp', o', V', h1, ho', h2, h3⟩
      have HMS := Lib.hid hms
      have HM5 := Lib.hid h2
      have HB5 := Lib.hid h3
      have HK5 := Lib.hid (HKU.out.trans (.of_below h3))
      have hd5 := bk_below HDU.out h3
      have hc5 := bk_below HCU.out h3
      have HD5 := Lib.hid hd5
      have HC5 := Lib.hid hc5
      have HRW5 := Lib.hid (show ∀ j, j < C.nC → ∀ r, r < 4 → w5.cell? ⟨b1, j * 4 + r, none⟩ = some (rf C q (fun i => (LL i).length) cp out j r) from fun j hj r hr => keepc h3 (HRU.out j hj r hr))
      obtain ⟨z0, z1, z2, z3, _, _⟩ := h1.cells
      have y0 := keepc h3 r0
      have y1 := keepc h3 r1
      have y2 := keepc h3 r2
      have y3 := keepc h3 r3
      have yg : w5.cell? ⟨g, 1, none⟩ = some (.slice (some ⟨b1, 0, none⟩) C.nC c) := (bk_cell hd5 1).trans rfl
      have t0 := bk_frozen hc5 (i * 4)
      have t1 := bk_frozen hc5 (i * 4 + 1)
      have t2 := bk_frozen hc5 (i * 4 + 2)
      have t3 := bk_frozen hc5 (i * 4 + 3)
      obtain ⟨l1, l2, _⟩ := cN_eq hok hi
      rw [l1] at z0
      rw [l2] at z1
      have hwz := HB1'.out.size
      clear h1 h2 h3 hms hd5 hc5 r0 r1 r2 r3 c1' l1 l2
      go_wp2_with fail
      go_region
      all_goals
        go_wp2
        go_ret2
        have hk4 : Kept b1 w5 ((((w5.setCell ⟨b1, i * 4, none⟩ (.int .i64 (C.cc i))).setCell ⟨b1, i * 4 + 1, none⟩ (.int .i64 (C.cw i))).setCell ⟨b1, i * 4 + 2, none⟩ (.slice q' T.length cp')).setCell ⟨b1, i * 4 + 3, none⟩ (.int .i64 o')) := ((((Kept.refl b1 w5).setCell _ _).setCell _ _).setCell _ _).setCell _ _
        have hkw := HK5.out.far hk4 (by have := HB1'.out.size; omega)
        have hrow := put4 (x0 := .int .i64 (C.cc i)) (x1 := .int .i64 (C.cw i)) (x2 := .slice q' T.length cp') (x3 := .int .i64 o') HC5.out hcs hi HRW5.out
        refine ⟨ma, mc, rfl, ?_, ⟨hLg, some ⟨b1, 0, none⟩, b1, c, upd' q i q', upd' cp i cp', upd' out i o', upd' V i V', hk4.blk HD5.out (fun e => hgb' e.symm), RefY.keep (RefY.put HYU.out hi hgb hcl hrow ?_ ?_ (by omega) (Nat.le_succ _) HSL.out) (fun b o v _ hc => hc)⟩, hkw.drew⟩
        · rcases HMS.out with h0 | ⟨mb, mo, e, hPm, hc⟩
          · exact .inl h0
          · exact .inr ⟨mb, mo, e, fun t ht => hk4.cell (hc t ht) (by have := hPm.2; omega)⟩
        · exact HM5.out.keep fun b o v hb hc => ⟨hb.1, hk4.cell hc (by have := hb.2; omega)⟩
        · refine fun j hj => (HY.out.msg j hj).keep fun b o v hb hc => ⟨hb, ?_⟩
          have hbl := block_lt_of_cell hc
          exact hkw.cell hc hb.2
end Go.Proofs.Ytofkgceenppdbaa
