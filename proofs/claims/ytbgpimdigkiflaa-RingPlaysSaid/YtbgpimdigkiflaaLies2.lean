/- Do the messages lie where they should: the law's own function lies. -/
import Derived.Test.YtbgpimdigkiflaaRefR
import Derived.Test.YtbgpimdigkiflaaLFull
namespace Go.Proofs.Ytbgpimdigkiflaa
open Go.RowKit
set_option linter.unusedVariables false
set_option linter.unusedSimpArgs false
/-- the values of a row of messages, and what they hold; all beyond lo -/
def VL (w : World) (lo : Nat) (Vs : List Value) (Ls : List (List Int)) : Prop :=
  Vs.length = Ls.length ∧ ∀ (i : Nat) (xs : List Int), Ls[i]? = some xs → ∃ (q : Option Addr) (cq : Nat), Vs[i]? = some (Value.slice q xs.length cq) ∧ Sl w .u32 q xs.length (fun j => xs.getD j 0) ∧ ∀ b o, q = some ⟨b, o, none⟩ → lo ≤ b
theorem VL.below {w w1 : World} {lo : Nat} {Vs : List Value} {Ls : List (List Int)} (h : VL w lo Vs Ls) (hb : Below w.heap.size w w1) : VL w1 lo Vs Ls := by
  refine ⟨h.1, fun i xs hi => ?_⟩
  obtain ⟨q, cq, h1, h2, h3⟩ := h.2 i xs hi
  exact ⟨q, cq, h1, h2.below hb, h3⟩
theorem msg_at {f : Nat → Int} {p : Nat} {xs : List Int} (h : msg f p xs.length = xs) {j : Nat} (hj : j < xs.length) : f (p + 1 + j) = xs.getD j 0 := by
  have h1 : (msg f p xs.length)[j]? = xs[j]? := by rw [h]
  unfold msg at h1
  rw [List.getElem?_map, List.getElem?_range hj, List.getElem?_eq_getElem hj] at h1
  simp only [Option.map_some, Option.some.injEq] at h1
  rw [List.getD_eq_getElem?_getD, List.getElem?_eq_getElem hj]
  exact h1
set_option maxRecDepth 20000 in
set_option maxHeartbeats 8000000 in
theorem lies_any (K R c d out : Nat) (f : Nat → Int) (Ls : List (List Int)) (p : Option Addr) (cp lo : Nat) (Vs : List Value) (w : World) (hKR : K ≠ R) (hc1 : 1 ≤ c) (hc8 : c ≤ 8) (hd1 : 1 ≤ d) (hd8 : d ≤ 8) (ho : out ≤ 1000) (hLc : Ls.length ≤ c) (hcp : Ls.length ≤ cp)
    (hr : IsRing w R c d (out % c) Ls.length) (hk : KS K f w) (hl : Lies f c d (out % c) Ls) (hV : SlV w p Vs) (hVL : VL w lo Vs Ls) :
    Calls Try.prog 20 #[.pointer (some ⟨K, 0, none⟩), .pointer (some ⟨R, 0, none⟩), .agg #[.int .i64 c, .int .i64 d, .slice p Ls.length cp, .int .i64 out]] w fun e w' => e = .returned (.bool true) ∧ Below w.heap.size w w' := by
  have hmf : ∀ (fn : Fn) (first cap : Array Value) (w : World), (Instr.makeFunc fn first cap).run Try.prog w = .ok (.func fn first cap) w := fun _ _ _ _ => rfl
  have hN := cap_le hc8 hd8
  have kp := keeps R K hKR
  have ha : out % c < c := Nat.mod_lt _ (by omega)
  obtain ⟨N, hNL⟩ : ∃ N, Ls.length = N := ⟨_, rfl⟩
  rw [hNL] at hr hLc hcp ⊢
  have HNL := Lib.hid hNL
  have HR := Lib.hid hr
  have HK := Lib.hid hk
  have HL := Lib.hid hl
  have HV := Lib.hid hV
  have HVL := Lib.hid hVL
  have hKl := bk_lt hk.1
  clear hr hk hl hV hVL hNL
  go_enter Try.func20, Try.ntmps20
  go_wp2_with fail
  go_loopw [7] (fun iv W' => ∃ i : Nat, i ≤ N ∧ iv = .int .i64 i ∧ Below (w.heap.size + 1) (w.alloc (.cells #[.int .i64 c, .int .i64 d, .slice p N cp, .int .i64 out] 30)) W') (fun iv _ => N - (intOf iv).toNat)
  case atStart => exact ⟨0, by omega, rfl, Below.refl _ _⟩
  case round =>
    obtain ⟨i, hi, rfl, hb⟩ := hrel
    have hb0 : Below w.heap.size w wr := (alloc_bl w _).trans (hb.mono (by omega))
    have hbx : wr.heap[w.heap.size]? = some (.cells #[.int .i64 c, .int .i64 d, .slice p N cp, .int .i64 out] 30 (0, 0)) := (hb.block _ (by omega)).trans (bk_new w _)
    have x0 : wr.cell? ⟨w.heap.size, 0, none⟩ = some (.int .i64 c) := bk_cell hbx 0
    have x1 : wr.cell? ⟨w.heap.size, 1, none⟩ = some (.int .i64 d) := bk_cell hbx 1
    have x2 : wr.cell? ⟨w.heap.size, 2, none⟩ = some (.slice p N cp) := bk_cell hbx 2
    have x3 : wr.cell? ⟨w.heap.size, 3, none⟩ = some (.int .i64 out) := bk_cell hbx 3
    have HBX := Lib.hid hbx
    have HB := Lib.hid hb
    have HB0 := Lib.hid hb0
    have hz := hb0.size
    have hwz := bk_lt hbx
    clear hb hb0 hbx
    by_cases hiN : i < N
    · have hiN' : (i : Int) < N := by omega
      obtain ⟨xs, hxs⟩ : ∃ xs, Ls[i]? = some xs := ⟨_, List.getElem?_eq_getElem (by rw [HNL.out]; exact hiN)⟩
      obtain ⟨q, cq, hv, hsl, _⟩ := HVL.out.2 i xs hxs
      obtain ⟨hl1, hl2, hl3, hl4⟩ := HL.out i xs hxs
      rcases HV.out with h0 | ⟨b, o, rfl, hcell⟩
      · rw [h0] at hv
        simp at hv
      have hcx := hcell i _ hv
      have hplc := plc_le (c := c) (d := d) (a := out % c) (k := i) hc1
      generalize hpp : plc c d (out % c) i = pp at *
      have HPP := Lib.hid hpp
      have hkat := fun j (hj : j < 72) => HK.out.1.at j hj
      have HKAT := Lib.hid hkat
      have HSL := Lib.hid hsl
      have HMSG := Lib.hid hl2
      have HCX := Lib.hid hcx
      have HL1 := Lib.hid hl1
      obtain ⟨ln, hln⟩ : ∃ ln, xs.length = ln := ⟨_, rfl⟩
      have HLN := Lib.hid hln
      rw [hln] at hl3 hl4
      clear hkat hsl hl1 hl2 hxs hv hcell hcx hpp hln
      go_wp2_with fail
      refine (at_any 0 c d out i .nilFunc _ hc1 hc8 hd8 ho (by omega) (some ⟨b, o, none⟩) N cp).mono ?_
      rintro e w1 ⟨rfl, hb1⟩
      rw [HPP.out]
      have y2 : w1.cell? ⟨w.heap.size, 2, none⟩ = some (.slice (some ⟨b, o, none⟩) N cp) := keepc hb1 x2
      have yk : w1.cell? ⟨K, pp, none⟩ = some (.int .u32 ln) := by
        have := keepc hb1 (keepc HB0.out (HKAT.out pp (by omega)))
        rw [HL1.out, HLN.out] at this
        exact this
      have yv : w1.cell? ⟨b, o + i, none⟩ = some (.slice q ln cq) := by
        have := keepc hb1 (keepc HB0.out HCX.out)
        rw [HLN.out] at this
        exact this
      have HB1 := Lib.hid (HB.out.trans (hb1.mono hwz))
      have HB1b := Lib.hid hb1
      have hz1 := hb1.size
      clear hb1 x0 x1 x2 x3
      have k1 : (pp : Int) < 72 := by omega
      have s1 : IntKind.i64.wrap (ln : Int) = ln := IntWalk.i64_in _ (by omega)
      go_wp2_with fail
      go_quiet (fail)
      go_upto_region 7 with fail
      have hsl1 := (HSL.out.below HB0.out).below (show Below wr.heap.size wr w1 from HB1b.out)
      refine wp_abs (fun W2 => W2.cell? ⟨w.heap.size, 2, none⟩ = some (.slice (some ⟨b, o, none⟩) N cp) ∧ W2.cell? ⟨b, o + i, none⟩ = some (.slice q ln cq) ∧ (∀ j, j < 72 → W2.cell? ⟨K, j, none⟩ = some (.int .u32 (f j))) ∧ Sl W2 .u32 q xs.length (fun j => xs.getD j 0) ∧
        Below (w.heap.size + 1) (w.alloc (.cells #[.int .i64 c, .int .i64 d, .slice (some ⟨b, o, none⟩) N cp, .int .i64 out] 30)) W2 ∧ w.heap.size < W2.heap.size) ⟨y2, yv, fun j hj => keepc HB1b.out (keepc HB0.out (HKAT.out j hj)), hsl1, bdrewN HB1.out _, by show w.heap.size < w1.heap.size; omega⟩ ?_
      clear y2 yk yv hsl1
      rintro W2 ⟨y2, yv, ykk, hsl2, hb2, hz2⟩
      have HKK := Lib.hid ykk
      have HSL2 := Lib.hid hsl2
      have HB2 := Lib.hid hb2
      clear ykk hsl2 hb2
      go_wp2_with fail
      go_loopw [9] (fun nv W' => ∃ j : Nat, j ≤ ln ∧ nv = .int .i64 j ∧ Below W2.heap.size W2 W') (fun nv _ => ln - (intOf nv).toNat)
      case atStart => exact ⟨0, by omega, rfl, Below.refl _ _⟩
      case round =>
        obtain ⟨j, hj, rfl, hb3⟩ := hrel
        have z2 := keepc hb3 y2
        have zv := keepc hb3 yv
        have HB3 := Lib.hid hb3
        have hz3 := hb3.size
        by_cases hjn : j < ln
        · have hjn' : (j : Int) < ln := by omega
          rcases HSL2.out with h0 | ⟨b', o', e', hc'⟩
          · have := HLN.out
            omega
          · have zc := keepc hb3 (hc' j (by rw [HLN.out]; exact hjn))
            have zk := keepc hb3 (HKK.out (pp + 1 + j) (by omega))
            rw [msg_at HMSG.out (by rw [HLN.out]; exact hjn)] at zk
            simp only at zc
            generalize xs.getD j 0 = xv at *
            subst e'
            have s2 : IntKind.i64.wrap ((pp : Int) + 1) = (pp : Int) + 1 := IntWalk.i64_in _ (by omega)
            have s3 : IntKind.i64.wrap ((pp : Int) + 1 + j) = ((pp + 1 + j : Nat) : Int) := by push_cast; exact IntWalk.i64_in _ (by omega)
            have k2 : pp + 1 + j < 72 := by omega
            have k3 : ((pp + 1 + j : Nat) : Int) < 72 := by omega
            obtain ⟨pj, hpj⟩ : ∃ pj, pp + 1 + j = pj := ⟨_, rfl⟩
            rw [hpj] at s3 k2 k3 zk
            clear hpj hb3 hc'
            go_wp2_with fail
            go_quiet (fail)
            go_wp2
            exact ⟨⟨j + 1, by omega, by go_num, bdrewN HB3.out _⟩, by simp [intOf]; omega⟩
        · go_wp2
          exact ⟨⟨i + 1, by omega, by go_num, HB2.out.trans (HB3.out.mono (by omega))⟩, by simp [intOf]; omega⟩
    · have hiN' : ¬ (i : Int) < N := by omega
      have HR1 := Lib.hid (HR.out.below HB0.out)
      have HK1 := Lib.hid (HK.out.below HB0.out)
      by_cases hN0 : N = 0
      · have hn1 : ¬ (0 : Int) < (N : Int) := by omega
        have hn2 : decide (0 < N) = false := by simp; omega
        have HR2 := Lib.hid (show IsRing wr R c d (out % c) 0 by rw [← hN0]; exact HR1.out)
        clear hN0
        go_wp2_with fail
        refine (next_empty _ _ _ c d (out % c) _ (by exact HR2.out) hc1).mono ?_
        rintro e w5 ⟨rfl, rfl⟩
        go_wp2
        go_ret
        exact ⟨rfl, HB0.out⟩
      · have hn1 : (0 : Int) < (N : Int) := by omega
        have hn2 : decide (0 < N) = true := by simp; omega
        have hn3 : 0 < N := by omega
        rcases HV.out with h0 | ⟨b, o, rfl, hcell⟩
        · have := HVL.out.1
          rw [h0, HNL.out] at this
          simp at this
          omega
        obtain ⟨xs, T, hLs⟩ : ∃ xs T, Ls = xs :: T := by
          cases hq : Ls with
          | nil =>
            have := HNL.out
            rw [hq] at this
            simp at this
            omega
          | cons xs T => exact ⟨xs, T, rfl⟩
        obtain ⟨q, cq, hv, hsl, _⟩ := HVL.out.2 0 xs (by rw [hLs]; rfl)
        have hhd := (show Lies f c d (out % c) (xs :: T) by rw [← hLs]; exact HL.out).head
        have yv : wr.cell? ⟨b, o, none⟩ = some (.slice q xs.length cq) := keepc HB0.out (by simpa using hcell 0 _ hv)
        have hnx := fun (W : World) (h1 : IsRing W R c d (out % c) N) (h2 : KS K f W) => next_some kp c d (out % c) N f W hc1 hc8 hd8 ha (by omega) hN h1 h2
        rw [hhd.1] at hnx
        have HNX := Lib.hid hnx
        generalize xs.length = ln at *
        clear hN0 hv hsl hcell hLs hhd hnx
        go_wp2_with fail
        refine (HNX.out _ HR1.out HK1.out).mono ?_
        rintro e w5 ⟨rfl, hb5⟩
        go_wp2
        go_ret
        exact ⟨rfl, bstep HB0.out hb5⟩
end Go.Proofs.Ytbgpimdigkiflaa
