/- The reference's Send and Recv of channels. -/
import Derived.Test.YtofkgceenppdbaaRX4
import Derived.Deep.CutBlock
import Derived.Deep.DeepCutAuto
namespace Go.Proofs.Ytofkgceenppdbaa
open Go.RowKit
set_option linter.unusedVariables false
set_option linter.unusedSimpArgs false
/-- the reference's ring receives -/
theorem r_recv (C : Cfg) (i : Nat) (P : Nat → Prop) (out cp : Nat) (q : Option Addr) (V : List Value) (L : List (List Int)) (W : World) (hok : CkOk C) (hi : i < C.nC) (hm : Msgs W P q cp V L) (hout : out < 1000000) :
    Calls Try.prog 65 #[.pointer (some ⟨W.heap.size, 0, none⟩)] (W.alloc (.cells #[.int .i64 (C.cc i), .int .i64 (C.cw i), .slice q L.length cp, .int .i64 out] 99)) fun e W' =>
      ∃ a c, e = .returned (.tuple #[.slice a (L.headD []).length c, .int .i64 (if L = [] then 12 else 0)]) ∧ ((L.headD []).length = 0 ∨ ∃ b o, a = some ⟨b, o, none⟩ ∧ P b ∧ ∀ t, t < (L.headD []).length → W'.cell? ⟨b, o + t, none⟩ = some (.int .u32 ((L.headD []).getD t 0))) ∧ ∃ q' cp' o' V', IsRef W' W.heap.size (cN C i) (dN C i) o' q' L.tail.length cp' ∧ o' ≤ out + 1 ∧ Msgs W' P q' cp' V' L.tail ∧ Below W.heap.size W W' := by
  obtain ⟨l1, l2, l3, l4, l5, l6⟩ := cN_eq hok hi
  have hal : Below W.heap.size W (W.alloc (.cells #[.int .i64 (C.cc i), .int .i64 (C.cw i), .slice q L.length cp, .int .i64 out] 99)) := (Below.refl _ _).alloc (Nat.le_refl _) _
  have hr : IsRef (W.alloc (.cells #[.int .i64 (C.cc i), .int .i64 (C.cw i), .slice q L.length cp, .int .i64 out] 99)) W.heap.size (cN C i) (dN C i) out q L.length cp := by
    unfold IsRef
    rw [l1, l2]
    exact bk_new W _
  rcases hL : L with _ | ⟨xs, L'⟩
  · rw [hL] at hr hm hal
    refine (rrecv_none _ _ _ _ _ _ _ hr).mono ?_
    rintro e w' ⟨rfl, rfl⟩
    exact ⟨none, 0, by rw [if_pos rfl]; rfl, .inl rfl, q, cp, out, V, hr, by omega, hm.keep (fun b o v h hc => ⟨h, keepc hal hc⟩), hal⟩
  · rw [hL] at hr hm hal
    obtain ⟨a, c, v1, v2⟩ := hm.at_ 0 xs rfl
    have hlen := hm.len
    rcases hV : V with _ | ⟨u, Vs⟩
    · rw [hV] at hlen; simp at hlen
    rw [hV] at v1 hlen
    simp only [List.getElem?_cons_zero, Option.some.injEq] at v1
    subst v1
    have hlen' : L'.length = Vs.length := by simpa using hlen.symm
    rcases hm.row with h0 | ⟨b, o, e, hPb, hc⟩
    · rw [hV] at h0; cases h0
    rw [hV] at hc
    have hbW : b < W.heap.size := by
      have := hc 0 _ rfl
      exact block_lt_of_cell this
    subst e
    have hcp : Vs.length + 1 ≤ cp := by have := hm.le; rw [hV] at this; simpa using this
    have hr' : IsRef (W.alloc (.cells #[.int .i64 (C.cc i), .int .i64 (C.cw i), .slice (some ⟨b, o, none⟩) (xs :: L').length cp, .int .i64 out] 99)) W.heap.size (cN C i) (dN C i) out (some ⟨b, o, none⟩) (Vs.length + 1) cp := by
      rw [← hlen']
      exact hr
    refine (rrecv_ok W.heap.size (cN C i) (dN C i) out Vs.length b o cp a xs.length c Vs _ rfl hr' (fun k u hk => keepc hal (hc k u hk)) hcp hout (by omega)).mono ?_
    rintro e w' ⟨rfl, o', cp', h1, h2, h3, h4⟩
    have hB : Below W.heap.size W w' := h4.below hal (Nat.le_refl _) (by rw [World.size_alloc]; omega)
    have ho := hm.keep (w' := w') (P' := P) (fun b o v h hc => ⟨h, keepc hB hc⟩)
    obtain ⟨a2, c2, w1, w2⟩ := ho.at_ 0 xs rfl
    rw [hV] at w1
    simp only [List.getElem?_cons_zero, Option.some.injEq, Value.slice.injEq, true_and] at w1
    obtain ⟨rfl, rfl⟩ := w1
    refine ⟨a, c, by rw [if_neg (by simp)]; rfl, w2, some ⟨b, o', none⟩, cp', out + 1, Vs, by show IsRef w' _ _ _ _ _ L'.length _; rw [hlen']; exact h1, Nat.le_refl _, ⟨hlen'.symm, ?_, (fun e => by cases e), h3, fun k ys hk => ?_⟩, hB⟩
    · rcases h2 with h0 | ⟨b', o'', e', hc'⟩
      · exact .inl h0
      · simp only [Option.some.injEq, Addr.mk.injEq, and_true] at e'
        obtain ⟨rfl, rfl⟩ := e'
        exact .inr ⟨_, _, rfl, hPb, hc'⟩
    · obtain ⟨a3, c3, x1, x2⟩ := ho.at_ (k + 1) ys (by simpa using hk)
      rw [hV] at x1
      exact ⟨a3, c3, by simpa using x1, x2⟩
theorem Kept.far {g b : Nat} {a w w' : World} (k : Kept g a w) (h : Kept b w w') (hb : a.heap.size ≤ b) : Kept g a w' :=
  ⟨h.os.trans k.os, h.tape.trans k.tape, h.output.trans k.output, Nat.le_trans k.size h.size, fun j hj hg => (h.block j (Nat.lt_of_lt_of_le hj k.size) (by omega)).trans (k.block j hj hg)⟩
set_option maxRecDepth 100000 in
set_option maxHeartbeats 4000000 in
theorem rxsend_any (C : Cfg) (pC : Option Addr) (cC t g Lg : Nat) (LL : Nat → List (List Int)) (part ch : Int) (qm : Option Addr) (xs : List Int) (capm : Nat) (w : World) (hx : RefX w g Lg C pC cC t LL) (hC : Sl4 w pC C.nC C.cf C.ct C.cc C.cw) (hok : CkOk C)
    (hs : Sl w .u32 qm xs.length (fun i => xs.getD i 0)) (hw : ∀ i, i < xs.length → 0 ≤ xs.getD i 0 ∧ xs.getD i 0 < 4294967296) (hqg : ∀ b o, qm = some ⟨b, o, none⟩ → 0 < xs.length → b ≠ g) :
    Calls Try.prog 49 #[.pointer (some ⟨g, 0, none⟩), .int .i64 part, .int .i64 ch, .slice qm xs.length capm] w fun e w' => e = .returned (.int .i64 (sendE C LL part ch xs.length)) ∧ RefX w' g Lg C pC cC t (sendL C LL part ch xs) ∧ Kept g w w' := by
  obtain ⟨hLg, p, b, cap, q, cp, out, V, hd, hy⟩ := hx
  have hn16 := hok.1.N.2.2.2.2
  have hm := fun (W : World) (h : Sl4 W pC C.nC C.cf C.ct C.cc C.cw) => rmay_any C pC p cC C.nC cap part ch true W h hn16
  have g0 : w.cell? ⟨g, 0, none⟩ = some (.slice pC C.nC cC) := (bk_cell hd 0).trans rfl
  have g1 : w.cell? ⟨g, 1, none⟩ = some (.slice p C.nC cap) := (bk_cell hd 1).trans rfl
  have hgl := bk_lt hd
  have HC := Lib.hid hC
  have HD := Lib.hid hd
  have HY := Lib.hid hy
  by_cases h0 : mayE C part ch true = 0
  case neg =>
    have e1 : sendE C LL part ch xs.length = mayE C part ch true := if_neg h0
    have e2 : sendL C LL part ch xs = LL := if_neg (by rw [e1]; exact h0)
    rw [e1, e2]
    obtain ⟨E, hE⟩ : ∃ E, mayE C part ch true = E := ⟨_, rfl⟩
    rw [hE] at hm h0
    rw [hE]
    have x1 : (E == 0) = false := beq_eq_false_iff_ne.2 h0
    have x2 : (E != 0) = true := by rw [bne, x1]; rfl
    have HM := Lib.hid hm
    clear hm hE h0 hC hy hd hs
    go_enter Try.func49, Try.ntmps49
    go_wp2_with fail
    refine (HM.out _ HC.out).mono ?_; rintro e w1 ⟨rfl, hb⟩
    go_wp2
    go_ret
    exact ⟨by simp, ⟨hLg, p, b, cap, q, cp, out, V, bk_below HD.out hb, HY.out.below hb⟩, .of_below hb⟩
  case pos =>
    rcases mayE_cases C part ch true with h4 | h4 | ⟨_, hc1, hc2, hp⟩
    · omega
    · omega
    obtain ⟨i, rfl⟩ : ∃ i : Nat, ch = i := ⟨ch.toNat, by omega⟩
    have hi : i < C.nC := by omega
    have e1 : sendE C LL part i xs.length = sE C i (LL i) xs.length := by unfold sendE sE; rw [if_pos h0, Int.toNat_natCast]
    have e2 : sendL C LL part i xs = updL LL i (sL C i (LL i) xs) := by
      unfold sendL sL
      rw [e1, Int.toNat_natCast]
      split
      · rfl
      · exact (updL_self LL i).symm
    rw [e1, e2]
    rw [h0] at hm
    have HM := Lib.hid hm
    have HS := Lib.hid hs
    have HW := Lib.hid hw
    have HQ := Lib.hid hqg
    have HSL := Lib.hid (sl_len hok hi (hy.le i hi) : (sL C i (LL i) xs).length ≤ cN C i)
    have HP := Lib.hid hy.pn
    have d1 : (i : Int) < C.nC := by omega
    clear hm e1 e2 h0 hp hC hy hd hs hw hqg
    go_enter Try.func49, Try.ntmps49
    go_wp2_with fail
    refine (HM.out _ HC.out).mono ?_; rintro e w1 ⟨rfl, hb⟩
    have HB1 := Lib.hid hb
    have HB1' := Lib.hid hb
    have HD1 := Lib.hid (bk_below HD.out hb)
    have HY1 := Lib.hid (HY.out.below hb)
    have g0' : w1.cell? ⟨g, 0, none⟩ = some (.slice pC C.nC cC) := (bk_cell HD1.out 0).trans rfl
    have g1' : w1.cell? ⟨g, 1, none⟩ = some (.slice p C.nC cap) := (bk_cell HD1.out 1).trans rfl
    have gf := bk_frozen HD1.out 1
    have hgl1 := bk_lt HD1.out
    have HSF := Lib.hid (show SlF w1 4 p C.nC (rf C q (fun i => (LL i).length) cp out) from .inr ⟨b, 0, (HY1.out.hp (by omega)).1, fun j hj r hr => by rw [Nat.zero_add]; exact HY1.out.row j hj r hr⟩)
    clear hb g0 g1 hgl HD HM
    go_wp2_with (at_builtin; refine appF rfl _ _ _ rfl keR (.slice (some ⟨w1.heap.size, 0, none⟩) 0 0) 0 [] (by rfl) (ownF_none (Nat.le_refl _)) p C.nC cap (rf C q (fun i => (LL i).length) cp out) (by rfl) HP.out (HSF.out.below ((Below.refl _ _).alloc (Nat.le_refl _) _)) (fun i r _ => rf_one C _ _ _ _ i r) (by omega) (by simp) ?c1)
    case c1 =>
      intro v2 w2 o2 b2 g2
      (try rw [List.nil_append, Nat.zero_add] at o2)
      obtain ⟨a, c, rfl, hsl, hab, hanil, hcl⟩ := ownF_sl o2
      rcases hsl with h0 | ⟨b1, o1, rfl, hrow⟩
      · omega
      obtain ⟨hb1, hb1l, rfl⟩ := hab b1 o1 rfl
      obtain ⟨cur, hcur, hcs⟩ := ownF_blk o2
      have hb12 : Below w1.heap.size w1 w2 := ((Below.refl w1.heap.size w1).alloc (Nat.le_refl _) _).trans b2
      have hd2 := bk_below HD1.out hb12
      have f2 := bk_frozen hd2 1
      have c2 : w2.cell? ⟨g, 1, none⟩ = some (.slice p C.nC cap) := (bk_cell hd2 1).trans rfl
      have HD2 := Lib.hid hd2
      have HB12 := Lib.hid hb12
      have HROW := Lib.hid hrow
      have HCUR := Lib.hid hcur
      have hgb : RP Lg g b1 := ⟨by omega, by omega⟩
      have hgb' : b1 ≠ g := by omega
      clear o2 b2 g2 hab hanil hcur hrow hb12 hd2 g0' g1' gf HSF
      go_upto_region 5 with fail
      refine wp_abs (fun U => U.heap[g]? = some (.cells #[.slice pC C.nC cC, .slice (some ⟨b1, 0, none⟩) C.nC c] 61 (0, 0)) ∧ U.heap[b1]? = some (.cells cur 99 (0, 0)) ∧ (∀ j, j < C.nC → ∀ r, r < 4 → U.cell? ⟨b1, j * 4 + r, none⟩ = some (rf C q (fun i => (LL i).length) cp out j r)) ∧ Kept g w U) ?_ ?_
      · have hk : Kept g w2 (w2.setCell ⟨g, 1, none⟩ (.slice (some ⟨b1, 0, none⟩) C.nC c)) := (Kept.refl _ _).setCell 1 _
        exact ⟨bk_set HD2.out 1 _, hk.blk HCUR.out (by omega), fun j hj r hr => by have := HROW.out j hj r hr; rw [Nat.zero_add] at this; exact hk.cell this (by omega), ((Kept.of_below HB1.out).trans (.of_below HB12.out)).trans hk⟩
      clear f2 c2
      rintro U ⟨u1, u2, u3, u4⟩
      have HYU := Lib.hid (HY.out.kept RP.not u4)
      have HKU := Lib.hid u4
      have HDU := Lib.hid u1
      have HCU := Lib.hid u2
      have HRU := Lib.hid u3
      have hsU : Sl U .u32 qm xs.length (fun i => xs.getD i 0) := by
        rcases HS.out with h0 | ⟨mb, mo, e, hc⟩
        · exact .inl h0
        · by_cases hn0 : xs.length = 0
          · exact .inl hn0
          · exact .inr ⟨mb, mo, e, fun t ht => u4.cell (hc t ht) (HQ.out mb mo e (by omega))⟩
      have HR := Lib.hid (r_send C i (fun b => RP Lg g b ∧ b < w.heap.size) (out i) (cp i) (q i) qm (V i) (LL i) xs capm U hok hi ((HY.out.msg i hi).keep (fun b o v hb hc => ⟨⟨hb, block_lt_of_cell hc⟩, u4.cell hc hb.2⟩)) (HYU.out.le i hi) hsU HW.out)
      have r0 : U.cell? ⟨b1, i * 4, none⟩ = some (.int .i64 (C.cc i)) := u3 i hi 0 (by decide)
      have r1 : U.cell? ⟨b1, i * 4 + 1, none⟩ = some (.int .i64 (C.cw i)) := u3 i hi 1 (by decide)
      have r2 : U.cell? ⟨b1, i * 4 + 2, none⟩ = some (.slice (q i) (LL i).length (cp i)) := u3 i hi 2 (by decide)
      have r3 : U.cell? ⟨b1, i * 4 + 3, none⟩ = some (.int .i64 (out i)) := u3 i hi 3 (by decide)
      have c1' : U.cell? ⟨g, 1, none⟩ = some (.slice (some ⟨b1, 0, none⟩) C.nC c) := (bk_cell u1 1).trans rfl
      have hub := bk_lt u2
      clear u1 u2 u3 u4 hsU HROW HCUR HB12 HD2 HY1 HD1 HB1
      go_wp2_with fail
      refine HR.out.mono ?_; rintro e w5 ⟨rfl, q', cp', V', h1, h2, h3⟩
      have HM5 := Lib.hid h2
      have HB5 := Lib.hid h3
      have HK5 := Lib.hid (HKU.out.trans (.of_below h3))
      have hd5 := bk_below HDU.out h3
      have hc5 := bk_below HCU.out h3
      have HD5 := Lib.hid hd5
      have HC5 := Lib.hid hc5
      have HRW5 := Lib.hid (show ∀ j, j < C.nC → ∀ r, r < 4 → w5.cell? ⟨b1, j * 4 + r, none⟩ = some (rf C q (fun i => (LL i).length) cp out j r) from fun j hj r hr => keepc h3 (HRU.out j hj r hr))
      obtain ⟨z0, z1, z2, z3, _, _⟩ := h1.cells
      have y0 := keepc h3 r0
      have y1 := keepc h3 r1
      have y2 := keepc h3 r2
      have y3 := keepc h3 r3
      have yg : w5.cell? ⟨g, 1, none⟩ = some (.slice (some ⟨b1, 0, none⟩) C.nC c) := (bk_cell hd5 1).trans rfl
      have t0 := bk_frozen hc5 (i * 4)
      have t1 := bk_frozen hc5 (i * 4 + 1)
      have t2 := bk_frozen hc5 (i * 4 + 2)
      have t3 := bk_frozen hc5 (i * 4 + 3)
      obtain ⟨l1, l2, _⟩ := cN_eq hok hi
      rw [l1] at z0
      rw [l2] at z1
      have hwz := HB1'.out.size
      clear h1 h2 h3 hd5 hc5 r0 r1 r2 r3 c1' l1 l2
      go_wp2_with fail
      go_region
      all_goals
        go_wp2
        go_ret
        have hk4 : Kept b1 w5 ((((w5.setCell ⟨b1, i * 4, none⟩ (.int .i64 (C.cc i))).setCell ⟨b1, i * 4 + 1, none⟩ (.int .i64 (C.cw i))).setCell ⟨b1, i * 4 + 2, none⟩ (.slice q' (sL C i (LL i) xs).length cp')).setCell ⟨b1, i * 4 + 3, none⟩ (.int .i64 (out i))) := ((((Kept.refl b1 w5).setCell _ _).setCell _ _).setCell _ _).setCell _ _
        have hkw := HK5.out.far hk4 (by have := HB1'.out.size; omega)
        have hrow := put4 (x0 := .int .i64 (C.cc i)) (x1 := .int .i64 (C.cw i)) (x2 := .slice q' (sL C i (LL i) xs).length cp') (x3 := .int .i64 (out i)) HC5.out hcs hi HRW5.out
        refine ⟨rfl, ⟨hLg, some ⟨b1, 0, none⟩, b1, c, upd' q i q', upd' cp i cp', upd' out i (out i), upd' V i V', hk4.blk HD5.out (fun e => hgb' e.symm), RefY.keep (RefY.put HYU.out hi hgb hcl hrow ?_ ?_ (HYU.out.out i hi) (Nat.le_refl _) HSL.out) (fun b o v _ hc => hc)⟩, hkw.drew⟩
        · refine HM5.out.keep fun b o v hb hc => ⟨?_, hk4.cell hc ?_⟩
          · rcases hb with hb | hb
            · exact hb.1
            · exact ⟨by omega, by omega⟩
          · rcases hb with hb | hb
            · have := hb.2; omega
            · omega
        · refine fun j hj => (HY.out.msg j hj).keep fun b o v hb hc => ⟨hb, ?_⟩
          have hbl := block_lt_of_cell hc
          exact hkw.cell hc hb.2
end Go.Proofs.Ytofkgceenppdbaa
