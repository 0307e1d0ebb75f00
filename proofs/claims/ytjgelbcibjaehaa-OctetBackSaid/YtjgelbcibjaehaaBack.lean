/- Helper text of this seat (Back): contracts of functions of the given program and of its references, each told by its theorem. -/
import Derived.Test.YtjgelbcibjaehaaBackW
import Derived.Deep.RegionWith
namespace Go.Proofs.Ytjgelbcibjaehaa
open Go.RowKit
set_option linter.unusedVariables false
set_option linter.unusedSimpArgs false
theorem info22 : (Try.prog.info? 22).map (fun i => (i.zero, i.size, i.bytes)) = some (some (.int .u32 0), 1, 4) := by kernel_rfl
theorem info3 : (Try.prog.info? 3).map (fun i => (i.zero, i.size, i.bytes)) = some (some (.int .i64 0), 1, 8) := by kernel_rfl
set_option maxRecDepth 1000000 in
theorem back_long (p1 p2 : Option Addr) (L1 c1 L2 c2 : Nat) (t : ByteArray) (w : World) (h : 100 < L1 ∨ 1000 < t.size) :
    Calls Try.prog 4 #[.slice p1 L1 c1, .slice p2 L2 c2, .string t] w fun e w' => e = .returned (.bool true) ∧ Below w.heap.size w w' := by
  by_cases h1 : 100 < L1
  · have h2 : (100 : Int) < L1 := by omega
    go_enter Try.func4, Try.ntmps4
    go_wp2_with fail
    refine (awake_any _).mono ?_; rintro e w3 ⟨rfl, b3⟩
    go_wp2
    go_returns
    exact ⟨by simp, b3⟩
  · have h2 : ¬ (100 : Int) < L1 := by omega
    have h3 : (1000 : Int) < t.size := by omega
    go_enter Try.func4, Try.ntmps4
    go_wp2_with fail
    refine (awake_any _).mono ?_; rintro e w3 ⟨rfl, b3⟩
    go_wp2
    go_returns
    exact ⟨by simp, b3⟩
theorem wf_mk {n : Int} (h0 : 0 ≤ n) (h1 : n < 4294967296) : (Lit.int .u32 n).wf = true := by
  have e1 : IntKind.u32.min = 0 := rfl
  have e2 : IntKind.u32.max = 4294967295 := rfl
  simp only [Lit.wf, Bool.and_eq_true, decide_eq_true_eq]
  omega
theorem wf_i64 {n : Int} (h0 : 1 ≤ n) (h1 : n ≤ 4) : (Lit.int .i64 n).wf = true := by
  have e1 : IntKind.i64.min = -9223372036854775808 := rfl
  have e2 : IntKind.i64.max = 9223372036854775807 := rfl
  simp only [Lit.wf, Bool.and_eq_true, decide_eq_true_eq]
  omega
theorem left_0 (g : Nat) (w : World) (h : IsR w g ⟨#[]⟩ true) :
    Calls Try.prog 14 #[.pointer (some ⟨g, 0, none⟩)] w fun e w' => e = .returned (.int .i64 0) ∧ w' = w := left_any g _ _ w h
theorem tl_size' (t : ByteArray) (a : Nat) (h : a ≤ t.size) : (t.extract a t.size).size = t.size - a := by rw [ByteArray.size_extract]; omega
theorem ext_ext (t : ByteArray) (a m : Nat) (h : a + m ≤ t.size) : (t.extract a t.size).extract m (t.extract a t.size).size = t.extract (a + m) t.size := by
  rw [tl_size' t a (by omega), ByteArray.extract_extract]
  congr 1
  omega
theorem ext_app (t : ByteArray) (a m : Nat) : t.extract 0 a ++ t.extract a (a + m) = t.extract 0 (a + m) := by
  rw [ByteArray.extract_append_extract]
  congr 1 <;> omega
/-- the pairs are good ones -/
def Good (ps : List (Int × Int)) : Prop := ∀ p ∈ ps, pE p.1 p.2 = 0 ∧ 0 ≤ p.1 ∧ p.1 < 4294967296
theorem good_snoc {ps : List (Int × Int)} {n v : Int} (h : Good ps) (he : pE n v = 0) (h0 : 0 ≤ n) (h1 : n < 4294967296) : Good (ps ++ [(n, v)]) := by
  intro p hp
  rcases List.mem_append.1 hp with hp | hp
  · exact h p hp
  · simp only [List.mem_singleton] at hp
    subst hp
    exact ⟨he, h0, h1⟩
theorem cat_size {ps : List (Int × Int)} (h : Good ps) : (cat ps).size ≤ 4 * ps.length := by
  induction ps with
  | nil => simp [cat]; rfl
  | cons p ps ih =>
    have := ih fun q hq => h q (by simp [hq])
    have h1 := h p (by simp)
    have h2 := pS_size h1.1
    have h3 := good h1.1
    simp only [cat, ByteArray.size_append, List.length_cons]
    omega
set_option maxRecDepth 1000000 in
set_option maxHeartbeats 8000000 in
theorem back_main (p1 p2 : Option Addr) (L1 c1 L2 c2 : Nat) (X V : Nat → Int) (t : ByteArray) (w : World) (hL : L1 ≤ 100) (ht : t.size ≤ 1000)
    (hX : Sl w .u32 p1 L1 X) (hV : Sl w .i64 p2 L2 V) (hXw : ∀ i, i < L1 → 0 ≤ X i ∧ X i < 4294967296) :
    Calls Try.prog 4 #[.slice p1 L1 c1, .slice p2 L2 c2, .string t] w fun e w' => e = .returned (.bool true) ∧ Below w.heap.size w w' := by
  have h2 : ¬ (100 : Int) < L1 := by omega
  have h3 : ¬ (1000 : Int) < t.size := by omega
  obtain ⟨i0, hi, hz0, hz1, hz2⟩ := info_parts info22
  obtain ⟨j0, hj, hj0, hj1, hj2⟩ := info_parts info3
  go_enter Try.func4, Try.ntmps4
  go_wp2_with fail
  go_loopw [7, 8, 9, 10] (fun s kv wv n W' => ∃ (k : Nat) (ps : List (Int × Int)), k ≤ L1 ∧ ps.length ≤ k ∧ Good ps ∧ n = .int .i64 k ∧ s = .string (cat ps) ∧ W'.ownsInts w.heap.size 22 .u32 kv (ps.map (·.1)) ∧ W'.ownsInts w.heap.size 3 .i64 wv (ps.map (·.2)) ∧ Below w.heap.size w W') (fun _ _ _ n _ => L1 - (intOf n).toNat)
  case atStart => exact ⟨0, [], by omega, by simp, by simp [Good], rfl, rfl, World.ownsInts_nil _ _ _ _, World.ownsInts_nil _ _ _ _, Below.refl _ _⟩
  case round =>
    obtain ⟨k, ps, hk, hps, hgood, rfl, rfl, o1, o2, hb⟩ := hrel
    by_cases hkL : k < L1 ∧ k < L2
    · obtain ⟨hk1, hk2⟩ := hkL
      have hi1 : (k : Int) < L1 := by omega
      have hi2 : (k : Int) < L2 := by omega
      have hnw : IntKind.i64.wrap ((k : Int) + 1) = (k : Int) + 1 := IntWalk.i64_in _ (by omega)
      rcases hX with h0 | ⟨b, o, rfl, hcx⟩
      · exact absurd h0 (by omega)
      rcases hV with h0 | ⟨b', o', rfl, hcv⟩
      · exact absurd h0 (by omega)
      have x1 := keepc hb (hcx k hk1)
      have y1 := keepc hb (hcv k hk2)
      obtain ⟨n0, n1⟩ := hXw k hk1
      have hsz := cat_size hgood
      go_wp2_with fail
      go_region_held3 (fun W' => W'.cell? ⟨b, o + k, none⟩ = some (.int .u32 (X k)) ∧ W'.cell? ⟨b', o' + k, none⟩ = some (.int .i64 (V k)) ∧ W'.ownsInts w.heap.size 22 .u32 u8 (ps.map (·.1)) ∧ W'.ownsInts w.heap.size 3 .i64 u9 (ps.map (·.2)) ∧ Below w.heap.size w W')
        (first | assumption | (refine ⟨?_, ?_, ?_, ?_, ?_⟩ <;> first | assumption | (simp only [*]; done) | exact bdrew (by first | assumption | (simp only [*]; done)) | exact keepc hb' (by assumption) | exact own_below (by assumption) hb' | exact bstep (by first | assumption | exact bdrew (by assumption)) hb'))
        (first | (go_at_call 8; refine (put_any (X k) (V k) n0 n1 _).mono ?_; rintro e w5 ⟨rfl, hb'⟩))
      obtain ⟨x2, y2, o1', o2', hb2⟩ : w5.cell? ⟨b, o + k, none⟩ = some (.int .u32 (X k)) ∧ w5.cell? ⟨b', o' + k, none⟩ = some (.int .i64 (V k)) ∧ w5.ownsInts w.heap.size 22 .u32 u8 (ps.map (·.1)) ∧ w5.ownsInts w.heap.size 3 .i64 u9 (ps.map (·.2)) ∧ Below w.heap.size w w5 := by assumption
      clear x1 y1 o1 o2 hb
      have hB := hb2.size
      by_cases hE : pE (X k) (V k) = 0
      · have hs4 := pS_size hE
        have hg4 := good hE
        go_wp2_with (at_builtin; refine wpList_append_own _ rfl _ _ 28 rfl w.heap.size 22 i0 (.int .u32 0) 1 4 Try.underlying28 hi hz0 hz1 hz2 rfl (by decide) _ _ _ rfl (o1'.1.alloc _) ⟨w5.heap.size, 0, none⟩ 1 1 [.int .u32 (X k)] rfl rfl ?c1 ?c2 ?c3 ?c4 ?c5 ?_)
        case c1 =>
          intro j u hj
          match j, hj with
          | 0, hj => simp at hj; subst hj; simp [Addr.add]
        case c2 => intro u hu; simp at hu; subst hu; rfl
        case c3 => simp [maxLen]; omega
        case c4 => simp; omega
        case c5 => simp; omega
        intro v1 w6 hown1 hgr1 _
        have wf1 : (Lit.int .u32 (X k)).wf = true := wf_mk n0 n1
        have p1' : w6.ownsInts w.heap.size 22 .u32 v1 ((ps ++ [(X k, V k)]).map (·.1)) := by
          have := (o1'.alloc (.cells #[.int .u32 (X k)] 22)).appended (x := X k) (by simpa using hown1) wf1
          simpa using this
        have p2' : w6.ownsInts w.heap.size 3 .i64 u9 (ps.map (·.2)) := (o2'.alloc _).kept hgr1 (own_apart o2' o1' (by decide))
        have hb6 : Below w.heap.size w w6 := below_grown (Below.alloc hb2 hB _) (o1'.alloc _) (by simp; omega) hgr1
        have y6 := keepc hb6 (hcv k hk2)
        have hB6 := hb6.size
        clear hown1 hgr1 o1' o2' x2 y2 hb2
        go_wp2_with (at_builtin; refine wpList_append_own _ rfl _ _ 29 rfl w.heap.size 3 j0 (.int .i64 0) 1 8 Try.underlying29 hj hj0 hj1 hj2 rfl (by decide) _ _ _ rfl (p2'.1.alloc _) ⟨w6.heap.size, 0, none⟩ 1 1 [.int .i64 (V k)] rfl rfl ?c1 ?c2 ?c3 ?c4 ?c5 ?_)
        case c1 =>
          intro j u hj
          match j, hj with
          | 0, hj => simp at hj; subst hj; simp [Addr.add]
        case c2 => intro u hu; simp at hu; subst hu; rfl
        case c3 => simp [maxLen]; omega
        case c4 => simp; omega
        case c5 => simp; omega
        intro v2 w7 hown2 hgr2 _
        have q2 : w7.ownsInts w.heap.size 3 .i64 v2 ((ps ++ [(X k, V k)]).map (·.2)) := by
          have := (p2'.alloc (.cells #[.int .i64 (V k)] 3)).appended (x := V k) (by simpa using hown2) (wf_i64 hg4.1 hg4.2.1)
          simpa using this
        have q1 : w7.ownsInts w.heap.size 22 .u32 v1 ((ps ++ [(X k, V k)]).map (·.1)) := (p1'.alloc _).kept hgr2 (own_apart p1' p2' (by decide))
        have hb7 : Below w.heap.size w w7 := below_grown (Below.alloc hb6 hB6 _) (p2'.alloc _) (by simp; omega) hgr2
        clear hown2 hgr2 p1' p2' y6 hb6
        go_wp2
        refine ⟨⟨k + 1, ps ++ [(X k, V k)], by omega, by simp; omega, good_snoc hgood hE n0 n1, by go_num, by rw [cat_snoc], q1, q2, hb7⟩, by simp [intOf]; omega⟩
      · go_wp2
        refine ⟨⟨k + 1, ps, by omega, by omega, hgood, by go_num, rfl, o1', o2', hb2⟩, by simp [intOf]; omega⟩
    · obtain ⟨wo, rfl⟩ : ∃ wo : World, wo = wr := ⟨_, rfl⟩
      obtain ⟨a1, d1, e1, hs1, hl1⟩ := own_sl o1
      obtain ⟨a2, d2, e2, hs2, hl2⟩ := own_sl o2
      rw [List.length_map] at e1 hs1 e2 hs2
      subst e1
      subst e2
      have hcs := cat_size hgood
      have hBw := hb.size
      have hpl : ps.length ≤ 100 := by omega
      have hkk : ¬ (k : Int) < L1 ∨ ((k : Int) < L1 ∧ ¬ (k : Int) < L2) := by omega
      clear o1 o2 hX hXw
      rcases hkk with hk1 | ⟨hk1, hk2⟩
      all_goals
        go_wp2_with fail
        refine (new_any _ _).mono ?_; rintro e w8 ⟨g, rfl, hr8, hg8, hb8⟩
        go_wp2_with fail
        go_loopw [14] (fun n W' => ∃ j : Nat, j ≤ ps.length ∧ n = .int .i64 j ∧ IsR W' g (cat (ps.drop j)) true ∧ Below wo.heap.size wo W') (fun n _ => ps.length - (intOf n).toNat)
        case atStart => exact ⟨0, by omega, rfl, by simpa using hr8, hb8⟩
        case round =>
          obtain ⟨j, hj, rfl, hrj, hbj⟩ := hrel
          clear hr8 hb8
          by_cases hjl : j < ps.length
          · obtain ⟨hE, hx0, hx1⟩ := hgood _ (List.getElem_mem hjl)
            have hgd := good hE
            have hcat : cat (ps.drop j) = pS (ps[j]).1 (ps[j]).2 ++ cat (ps.drop (j + 1)) := by rw [List.drop_eq_getElem_cons hjl]; rfl
            have hsz := cat_size (ps := ps.drop (j + 1)) fun p hp => hgood p (List.mem_of_mem_drop hp)
            rw [List.length_drop] at hsz
            rw [hcat] at hrj
            rcases hs1 with h0 | ⟨b1, q1, rfl, hc1⟩
            · omega
            rcases hs2 with h0 | ⟨b2, q2, rfl, hc2⟩
            · omega
            have hb1 := hl1 _ _ rfl
            have hb2 := hl2 _ _ rfl
            have x1 := keepc hbj (hc1 j hjl)
            have x2 := keepc hbj (hc2 j hjl)
            have m1 : (ps.map (·.1)).getD j 0 = (ps[j]).1 := by simp [List.getD_eq_getElem?_getD, hjl]
            have m2 : (ps.map (·.2)).getD j 0 = (ps[j]).2 := by simp [List.getD_eq_getElem?_getD, hjl]
            simp only [m1] at x1
            simp only [m2] at x2
            have hfull := fun (W : World) (h : IsR W g (pS (ps[j]).1 (ps[j]).2 ++ cat (ps.drop (j + 1))) true) => num_full g _ _ _ W hx0 hE h (by omega)
            generalize (ps[j]).1 = X1 at *
            generalize (ps[j]).2 = V1 at *
            generalize hcd : cat (ps.drop (j + 1)) = T1 at *
            have HF := Lib.hid hfull
            have HR := Lib.hid hrj
            have HB := Lib.hid hbj
            have HC := Lib.hid hcd
            clear hfull hrj hbj hcd hcat m1 m2 hc1 hc2 hgood hE
            have hj1 : (0 : Int) ≤ (j : Int) := by omega
            have hj2 : (j : Int) < ps.length := by omega
            have hjw : IntKind.i64.wrap ((j : Int) + 1) = (j : Int) + 1 := IntWalk.i64_in _ (by omega)
            go_wp2_with fail
            go_region_with (first
              | (go_at_call 12
                 refine (HF.out _ (by exact HR.out)).mono ?_
                 rintro e w3 ⟨rfl, y1, k3⟩
                 replace k3 : Kept g wr w3 := ⟨k3.os, k3.tape, k3.output, k3.size, k3.block⟩
                 have n1 := k3.cell x1 (by omega)
                 have n2 := k3.cell x2 (by omega))
              | (go_at_call 13
                 refine (fine_any g _ true _ y1).mono ?_
                 rintro e w4 ⟨rfl, rfl⟩))
            all_goals
              go_wp2
              refine ⟨⟨j + 1, by omega, by go_num, by rw [HC.out]; exact y1, k3.below HB.out hg8 HB.out.size⟩, by simp [intOf]; omega⟩
          · have hjp : j = ps.length := by omega
            subst hjp
            have hr9 : IsR wr g ⟨#[]⟩ true := by simpa [cat] using hrj
            have HR9 := Lib.hid hr9
            have HB9 := Lib.hid hbj
            clear hrj hr9 hbj
            go_wp2_with fail
            refine (left_0 g _ HR9.out).mono ?_; rintro e w3 ⟨rfl, rfl⟩
            go_wp2_with fail
            refine (fine_any g _ true _ HR9.out).mono ?_; rintro e w3 ⟨rfl, rfl⟩
            go_wp2_with fail
            refine (new_any _ _).mono ?_; rintro e w10 ⟨g2, rfl, hr10, hg10, hb10⟩
            have HR10 := Lib.hid hr10
            have HB10 := Lib.hid (bstep HB9.out hb10)
            have hg2 : wo.heap.size ≤ g2 := Nat.le_trans HB9.out.size hg10
            clear hr10 hb10
            go_wp2_with fail
            go_loopw [16, 17] (fun b n W' => ∃ j a : Nat, j ≤ 100 ∧ j ≤ L2 ∧ a ≤ t.size ∧ n = .int .i64 j ∧ b = .string (t.extract 0 a) ∧ IsR W' g2 (t.extract a t.size) true ∧ Below wo.heap.size wo W') (fun _ n _ => 100 - (intOf n).toNat)
            case atStart => exact ⟨0, 0, by omega, by omega, by omega, rfl, by simp; rfl, by simpa using HR10.out, HB10.out⟩
            case round =>
              obtain ⟨j, a, hj, hjL, ha, rfl, rfl, hr, hb3⟩ := hrel
              have HR := Lib.hid hr
              have HB3 := Lib.hid hb3
              clear hr hb3
              have hT := tl_size' t a ha
              by_cases hjj : j < L2 ∧ j < 100
              · obtain ⟨hj1, hj2⟩ := hjj
                have hj1' : (j : Int) < L2 := by omega
                have hj2' : (j : Int) < 100 := by omega
                rcases hV with h0 | ⟨b', o', rfl, hcv⟩
                · omega
                have y1 := keepc HB3.out (keepc hb (hcv j hj1))
                have hbg : b' ≠ g2 := by
                  have h1 : b' < w.heap.size := block_lt_of_cell (hcv j hj1)
                  have h2 := hb.size
                  omega
                have HCV := Lib.hid hcv
                clear hcv
                go_wp2_with fail
                refine (left_all g2 _ _ HR.out).mono ?_; rintro e w4 ⟨rfl, rfl⟩
                by_cases hgd : 1 ≤ V j ∧ V j ≤ 4 ∧ V j ≤ (t.extract a t.size).size
                · obtain ⟨g1, g2', g3⟩ := hgd
                  obtain ⟨m, hm⟩ : ∃ m : Nat, V j = m := ⟨(V j).toNat, by omega⟩
                  obtain ⟨q1, q2, q3, q4⟩ := put_read t a m (by omega) (by omega) (by omega)
                  have e5 : (t.extract a t.size).extract m (t.extract a t.size).size = t.extract (a + m) t.size := ext_ext t a m (by omega)
                  have e6 : t.extract 0 a ++ t.extract a (a + m) = t.extract 0 (a + m) := ext_app t a m
                  have hnum := fun (W : World) (h : IsR W g2 (t.extract a t.size) true) => num_ok g2 _ m W h (by omega) (by omega) (by omega) (by omega)
                  have hput := fun (W : World) => put_any (be ((t.extract a t.size).data.toList.take m)) m q1 q2 W
                  rw [e5] at hnum
                  rw [q3, q4] at hput
                  have e7 : (t.extract 0 (a + m)).size = a + m := by rw [ByteArray.size_extract]; omega
                  have z1 : (t.extract 0 a).size ≤ 1000 := by rw [ByteArray.size_extract]; omega
                  have z2 : (t.extract a (a + m)).size ≤ 1000 := by rw [ByteArray.size_extract]; omega
                  rw [hm] at y1
                  generalize be ((t.extract a t.size).data.toList.take m) = N at *
                  have HN := Lib.hid hnum
                  have HPu := Lib.hid hput
                  have ham : (a : Int) + m ≤ t.size := by omega
                  have ham2 : a + m ≤ t.size := by omega
                  clear hnum hput q3 q4 e5 hm hT g1 g2' g3
                  generalize t.extract a t.size = T at *
                  go_wp2_with fail
                  refine (HN.out _ HR.out).mono ?_; rintro e w5 ⟨rfl, hr5, hk5⟩
                  have y5 := hk5.cell y1 hbg
                  have HR5 := Lib.hid hr5
                  have HB5 := Lib.hid (hk5.below HB3.out hg2 HB3.out.size)
                  clear hr5 hk5 y1
                  go_wp2_with fail
                  refine (fine_any g2 _ true _ HR5.out).mono ?_; rintro e w6 ⟨rfl, rfl⟩
                  go_wp2_with fail
                  refine (HPu.out _).mono ?_; rintro e w7 ⟨rfl, hb7⟩
                  have HR7 := Lib.hid (HR5.out.below hb7)
                  have HB7 := Lib.hid (bstep HB5.out hb7)
                  clear hb7 y5
                  generalize hX1 : t.extract 0 a = S1 at *
                  generalize hX2 : t.extract a (a + m) = S2 at *
                  generalize hX3 : t.extract 0 (a + m) = S3 at *
                  have e8 : t.extract 0 S3.size = S3 := by rw [e7, hX3]
                  have e9 : (S3.size : Int) ≤ t.size := by omega
                  have e10 : (0 : Int) ≤ S3.size := by omega
                  have HX3 := Lib.hid hX3
                  clear hX1 hX2 hX3 e7
                  go_wp2
                  refine ⟨⟨j + 1, a + m, by omega, by omega, ham2, by go_num, by rw [HX3.out], HR7.out, HB7.out⟩, by simp [intOf]; omega⟩
                · have hbad : V j < 1 ∨ (¬ V j < 1 ∧ 4 < V j) ∨ (¬ V j < 1 ∧ ¬ 4 < V j ∧ ((t.extract a t.size).size : Int) < V j) := by omega
                  have hnum := fun (W : World) (h : IsR W g2 (t.extract a t.size) true) => num_bad g2 _ (V j) W h (by omega) (by omega)
                  have HN := Lib.hid hnum
                  clear hnum hgd hT
                  generalize t.extract a t.size = T at *
                  generalize V j = x at *
                  rcases hbad with k1 | ⟨k1, k2⟩ | ⟨k1, k2, k3⟩
                  all_goals
                    go_wp2_with fail
                    refine (HN.out _ HR.out).mono ?_; rintro e w5 ⟨rfl, hr5, hk5⟩
                    have y5 := hk5.cell y1 hbg
                    have HR5 := Lib.hid hr5
                    have HB5 := Lib.hid (hk5.below HB3.out hg2 HB3.out.size)
                    clear hr5 hk5
                    go_wp2_with fail
                    refine (fine_any g2 _ false _ HR5.out).mono ?_; rintro e w6 ⟨rfl, rfl⟩
                    go_wp2_with fail
                    refine (awake_any _).mono ?_; rintro e w7 ⟨rfl, b7⟩
                    go_wp2
                    go_returns
                    exact ⟨by simp, bstep hb (bstep HB5.out b7)⟩
              · have hjj' : ¬ (j : Int) < L2 ∨ ((j : Int) < L2 ∧ ¬ (j : Int) < 100) := by omega
                rcases hjj' with k1 | ⟨k1, k2⟩
                all_goals
                  go_wp2_with fail
                  refine (awake_any _).mono ?_; rintro e w7 ⟨rfl, b7⟩
                  go_wp2
                  go_returns
                  exact ⟨by simp, bstep hb (bstep HB3.out b7)⟩
theorem OctetBack_any (p1 p2 : Option Addr) (L1 c1 L2 c2 : Nat) (X V : Nat → Int) (t : ByteArray) (w : World)
    (hX : Sl w .u32 p1 L1 X) (hV : Sl w .i64 p2 L2 V) (hXw : ∀ i, i < L1 → 0 ≤ X i ∧ X i < 4294967296) :
    Calls Try.prog 4 #[.slice p1 L1 c1, .slice p2 L2 c2, .string t] w fun e w' => e = .returned (.bool true) ∧ Below w.heap.size w w' := by
  by_cases h : 100 < L1 ∨ 1000 < t.size
  · exact back_long p1 p2 L1 c1 L2 c2 t w h
  · exact back_main p1 p2 L1 c1 L2 c2 X V t w (by omega) (by omega) hX hV hXw
end Go.Proofs.Ytjgelbcibjaehaa
