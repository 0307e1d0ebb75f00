/- The law RingPlays. -/
import Derived.Test.YtbgpimdigkiflaaLies2
import Derived.Test.YtbgpimdigkiflaaOpenC
import Derived.Test.YtbgpimdigkiflaaSameW
import Derived.Deep.RegionHeld3
namespace Go.Proofs.Ytbgpimdigkiflaa
open Go.RowKit
set_option linter.unusedVariables false
set_option linter.unusedSimpArgs false
theorem rnew_bad (c d : Int) (w : World) (h : c < 1 ∨ 8 < c ∨ d < 1 ∨ 8 < d) :
    Calls Try.prog 10 #[.int .i64 c, .int .i64 d] w fun e w' => e = .returned (.tuple #[.agg #[.int .i64 0, .int .i64 0, .slice none 0 0, .int .i64 0], .int .i64 2]) ∧ Below w.heap.size w w' := by
  have h' : c < 1 ∨ (¬ c < 1 ∧ 8 < c) ∨ (¬ c < 1 ∧ ¬ 8 < c ∧ d < 1) ∨ (¬ c < 1 ∧ ¬ 8 < c ∧ ¬ d < 1 ∧ 8 < d) := by omega
  rcases h' with k1 | ⟨k1, k2⟩ | ⟨k1, k2, k3⟩ | ⟨k1, k2, k3, k4⟩
  all_goals
    go_enter Try.func10, Try.ntmps10
    go_wp2
    go_returns
    exact ⟨rfl, by go_grown⟩
theorem rnew_ok (c d : Nat) (w : World) (hc : 1 ≤ c) (hc8 : c ≤ 8) (hd : 1 ≤ d) (hd8 : d ≤ 8) :
    Calls Try.prog 10 #[.int .i64 c, .int .i64 d] w fun e w' => e = .returned (.tuple #[.agg #[.int .i64 c, .int .i64 d, .slice none 0 0, .int .i64 0], .int .i64 0]) ∧ Below w.heap.size w w' := by
  have k1 : ¬ (c : Int) < 1 := by omega
  have k2 : ¬ (8 : Int) < c := by omega
  have k3 : ¬ (d : Int) < 1 := by omega
  have k4 : ¬ (8 : Int) < d := by omega
  go_enter Try.func10, Try.ntmps10
  go_wp2
  go_returns
  exact ⟨rfl, by go_grown⟩
set_option maxHeartbeats 2000000 in
theorem plays_bad (c d : Int) (p : Option Addr) (n cap : Nat) (w : World) (h : 200 < n ∨ (c < 1 ∨ 8 < c ∨ d < 1 ∨ 8 < d)) :
    Calls Try.prog 3 #[.int .i64 c, .int .i64 d, .slice p n cap] w fun e w' => e = .returned (.bool true) ∧ Below w.heap.size w w' := by
  have hz := zero_kept
  by_cases hn : 200 < n
  · have k1 : (200 : Int) < n := by omega
    go_enter Try.func3, Try.ntmps3
    go_wp2_with fail
    refine (awake_any _).mono ?_; rintro e w3 ⟨rfl, b3⟩
    go_wp2
    go_ret
    exact ⟨rfl, b3⟩
  · have hbad : c < 1 ∨ 8 < c ∨ d < 1 ∨ 8 < d := by omega
    have k1 : ¬ (200 : Int) < n := by omega
    go_enter Try.func3, Try.ntmps3
    go_wp2_with fail
    refine (new_bad c d _ hbad).mono ?_; rintro e w1 ⟨rfl, rfl⟩
    go_wp2_with fail
    refine (rnew_bad c d _ hbad).mono ?_; rintro e w2 ⟨rfl, hb2⟩
    have HB2 := Lib.hid (bstep (Below.refl _ _) hb2)
    clear hb2
    go_wp2_with fail
    go_loopw [12] (fun iv W' => iv = .int .i64 0 ∧ Below w1.heap.size w1 W') (fun _ _ => 0)
    case atStart => exact ⟨rfl, by first | exact (HB2.out.alloc HB2.out.size _).alloc (by simp; have := HB2.out.size; omega) _ | go_grown⟩
    case round =>
      obtain ⟨rfl, hb⟩ := hrel
      have HB := Lib.hid hb
      clear hb
      by_cases h0 : n = 0
      · have e0 : ¬ (0 : Int) < (n : Int) := by omega
        have e1 : decide (0 < n) = false := by simp; omega
        clear h0
        go_wp2_with fail
        refine (awake_any _).mono ?_; rintro e w3 ⟨rfl, b3⟩
        go_wp2
        go_ret
        exact ⟨rfl, bstep HB.out b3⟩
      · have e0 : (0 : Int) < (n : Int) := by omega
        have e1 : decide (0 < n) = true := by simp; omega
        have e2 : 0 < n := by omega
        clear h0
        go_wp2_with fail
        refine (awake_any _).mono ?_; rintro e w3 ⟨rfl, b3⟩
        go_wp2
        go_ret
        exact ⟨rfl, bstep HB.out b3⟩
/-- both rings behind some calls -/
structure PI (W : World) (R G K lo c d out : Nat) (Ls : List (List Int)) (f : Nat → Int) (p : Option Addr) (cp : Nat) (Vs : List Value) : Prop where
  ring : IsRing W R c d (out % c) Ls.length
  kept : KS K f W
  lies : Lies f c d (out % c) Ls
  ref : IsRef W G c d out p Ls.length cp
  row : SlV W p Vs
  vals : VL W lo Vs Ls
  far : ∀ b o, p = some ⟨b, o, none⟩ → lo ≤ b
  nil : p = none → Vs = [] ∧ cp = 0
  many : Ls.length ≤ c
  room : Ls.length ≤ cp
  one : ∀ u ∈ Vs, u.oneCell' = true
  word : ∀ xs ∈ Ls, ∀ x ∈ xs, 0 ≤ x ∧ x < 4294967296
theorem PI.below {W W1 : World} {R G K lo c d out : Nat} {Ls : List (List Int)} {f : Nat → Int} {p : Option Addr} {cp : Nat} {Vs : List Value} (h : PI W R G K lo c d out Ls f p cp Vs) (hb : Below W.heap.size W W1) : PI W1 R G K lo c d out Ls f p cp Vs :=
  ⟨h.ring.below hb, h.kept.below hb, h.lies, bk_below h.ref hb, h.row.below hb, h.vals.below hb, h.far, h.nil, h.many, h.room, h.one, h.word⟩
theorem PI.drew {W : World} {R G K lo c d out : Nat} {Ls : List (List Int)} {f : Nat → Int} {p : Option Addr} {cp : Nat} {Vs : List Value} (h : PI W R G K lo c d out Ls f p cp Vs) : PI W.drew R G K lo c d out Ls f p cp Vs := h.below (bdrew (Below.refl _ _))
theorem VL.move {w w1 : World} {lo : Nat} {Vs : List Value} {Ls : List (List Int)} (h : VL w lo Vs Ls) (hk : ∀ b, lo ≤ b → b < w.heap.size → w1.heap[b]? = w.heap[b]?) : VL w1 lo Vs Ls := by
  refine ⟨h.1, fun i xs hi => ?_⟩
  obtain ⟨q, cq, e1, e2, e3⟩ := h.2 i xs hi
  refine ⟨q, cq, e1, ?_, e3⟩
  rcases e2 with e2 | ⟨b, o, e, hc⟩
  · exact .inl e2
  · refine .inr ⟨b, o, e, fun j hj => ?_⟩
    have hcj := hc j hj
    rw [← hcj]
    exact World.cell?_of_block (w := w) (w' := w1) (a := ⟨b, o + j, none⟩) (hk b (e3 b o e) (block_lt_of_cell hcj))
theorem SlV.move {w w1 : World} {lo : Nat} {p : Option Addr} {zs : List Value} (h : SlV w p zs) (hf : ∀ b o, p = some ⟨b, o, none⟩ → lo ≤ b) (hk : ∀ b, lo ≤ b → b < w.heap.size → w1.heap[b]? = w.heap[b]?) : SlV w1 p zs := by
  rcases h with h | ⟨b, o, e, hc⟩
  · exact .inl h
  · refine .inr ⟨b, o, e, fun i u hi => ?_⟩
    have hcj := hc i u hi
    rw [← hcj]
    exact World.cell?_of_block (w := w) (w' := w1) (a := ⟨b, o + i, none⟩) (hk b (hf b o e) (block_lt_of_cell hcj))
theorem PI.sent {W W5 W6 : World} {R G K lo c d out : Nat} {Ls : List (List Int)} {f : Nat → Int} {p : Option Addr} {cp : Nat} {Vs : List Value} (h : PI W R G K lo c d out Ls f p cp Vs) (xs : List Int) {p' q' : Option Addr} {cp' c' : Nat}
    (hKG : K = G + 1) (hlK : lo = K + 1) (hRG : R < G) (hlo : lo ≤ W.heap.size) (hx : ∀ x ∈ xs, 0 ≤ x ∧ x < 4294967296) (hL : Ls.length < c) (h1 : 1 ≤ xs.length) (hd : xs.length ≤ d)
    (hr5 : IsRing W5 R c d (out % c) (Ls.length + 1)) (hk5 : KS K (lay f (plc c d (out % c) Ls.length) (fun i => xs.getD i 0) xs.length xs.length) W5) (hb5 : Kept2 R K W W5)
    (hi6 : IsRef W6 G c d out p' (Vs.length + 1) cp') (hs6 : SlV W6 p' (Vs ++ [.slice q' xs.length c'])) (hq6 : Sl W6 .u32 q' xs.length (fun i => xs.getD i 0)) (hp6 : ∀ b o, p' = some ⟨b, o, none⟩ → W5.heap.size ≤ b)
    (hq6' : ∀ b o, q' = some ⟨b, o, none⟩ → W5.heap.size ≤ b) (hc6 : Vs.length + 1 ≤ cp') (hb6 : Kept G W5 W6) :
    PI W6 R G K lo c d out (Ls ++ [xs]) (lay f (plc c d (out % c) Ls.length) (fun i => xs.getD i 0) xs.length xs.length) p' cp' (Vs ++ [.slice q' xs.length c']) := by
  have hv := h.vals.1
  have hz := hb5.size
  refine ⟨?_, ⟨hb6.blk hk5.1 (by omega), hk5.2⟩, h.lies.send hL h1 hd, ?_, hs6, ⟨by simp [hv], fun i ys hi => ?_⟩, fun b o e => by have := hp6 b o e; omega, fun e => ?_, by simp; omega, by simp; omega, fun u hu => ?_, fun ys hy => ?_⟩
  · rw [List.length_append]
    exact hb6.blk hr5 (by omega)
  · rw [List.length_append, ← hv]
    exact hi6
  · by_cases hl : i < Ls.length
    · rw [List.getElem?_append_left hl] at hi
      have hm := (h.vals.move (w1 := W6) (fun b hb hbl => (hb6.block b (by omega) (by omega)).trans (hb5.block b hbl (by omega) (by omega)))).2 i ys hi
      obtain ⟨q, cq, e1, e2, e3⟩ := hm
      exact ⟨q, cq, by rw [List.getElem?_append_left (by omega)]; exact e1, e2, e3⟩
    · have hi2 : i = Ls.length := by
        have := (List.getElem?_eq_some_iff.1 hi).1
        simp at this
        omega
      subst hi2
      rw [List.getElem?_append_right (Nat.le_refl _), Nat.sub_self] at hi
      simp at hi
      subst hi
      refine ⟨q', c', ?_, hq6, fun b o e => by have := hq6' b o e; omega⟩
      rw [List.getElem?_append_right (by omega), show Ls.length - Vs.length = 0 by omega]
      rfl
  · rcases hs6 with h0 | ⟨b, o, e', _⟩
    · simp at h0
    · rw [e] at e'; cases e'
  · rcases List.mem_append.1 hu with hu | hu
    · exact h.one u hu
    · simp at hu
      subst hu
      rfl
  · rcases List.mem_append.1 hy with hy | hy
    · exact h.word ys hy
    · simp at hy
      subst hy
      exact hx
theorem PI.got {W W5 W6 : World} {R G K lo c d out : Nat} {xs : List Int} {Ls : List (List Int)} {f : Nat → Int} {b o cp : Nat} {v : Value} {Vs : List Value} (h : PI W R G K lo c d out (xs :: Ls) f (some ⟨b, o, none⟩) cp (v :: Vs))
    {o' cp' : Nat} (hKG : K = G + 1) (hlK : lo = K + 1) (hRG : R < G) (hlo : lo ≤ W.heap.size)
    (hr5 : IsRing W5 R c d ((out % c + 1) % c) Ls.length) (hb5 : Kept R W W5)
    (hi6 : IsRef W6 G c d (out + 1) (some ⟨b, o', none⟩) Ls.length cp') (hs6 : SlV W6 (some ⟨b, o', none⟩) Vs) (hc6 : Ls.length ≤ cp') (hb6 : Kept G W5 W6) :
    PI W6 R G K lo c d (out + 1) Ls f (some ⟨b, o', none⟩) cp' Vs := by
  have hv := h.vals.1
  have hz := hb5.size
  have hm := h.many
  simp at hv hm
  refine ⟨?_, ⟨hb6.blk (hb5.blk h.kept.1 (by omega)) (by omega), h.kept.2⟩, ?_, hi6, hs6, ⟨hv, fun i ys hi => ?_⟩, fun b2 o2 e => ?_, (fun e => by cases e), by omega, hc6, fun u hu => h.one u (List.mem_cons_of_mem _ hu), fun ys hy => h.word ys (List.mem_cons_of_mem _ hy)⟩
  · rw [← Nat.mod_add_mod]
    exact hb6.blk hr5 (by omega)
  · rw [← Nat.mod_add_mod]
    exact h.lies.tail
  · have hm := (h.vals.move (w1 := W6) (fun b hb hbl => (hb6.block b (by omega) (by omega)).trans (hb5.block b hbl (by omega)))).2 (i + 1) ys (by simpa using hi)
    obtain ⟨q, cq, e1, e2, e3⟩ := hm
    exact ⟨q, cq, by simpa using e1, e2, e3⟩
  · simp only [Option.some.injEq, Addr.mk.injEq, and_true] at e
    exact h.far b2 o (by rw [e.1])
set_option maxRecDepth 20000 in
set_option maxHeartbeats 8000000 in
theorem plays_good (c d : Nat) (p : Option Addr) (n cap : Nat) (D : Nat → Int) (A : Nat → Option Addr) (M CP : Nat → Nat) (X : Nat → Nat → Int) (w : World) (hc1 : 1 ≤ c) (hc8 : c ≤ 8) (hd1 : 1 ≤ d) (hd8 : d ≤ 8) (hn : n ≤ 200)
    (hO : OpsW w p n D A M CP X) :
    Calls Try.prog 3 #[.int .i64 c, .int .i64 d, .slice p n cap] w fun e w' => e = .returned (.bool true) ∧ Below w.heap.size w w' := by
  have hmf : ∀ (fn : Fn) (first cap : Array Value) (w : World), (Instr.makeFunc fn first cap).run Try.prog w = .ok (.func fn first cap) w := fun _ _ _ _ => rfl
  have hz := zero_kept
  have hN := cap_le hc8 hd8
  have k1 : ¬ (200 : Int) < n := by omega
  have HOP := Lib.hid hO
  clear hO
  go_enter Try.func3, Try.ntmps3
  go_wp2_with fail
  refine (new_rs c d _ hc1 hc8 hd1 hd8).mono ?_
  rintro e w1 ⟨R, rfl, hr1, hR1, hb1⟩
  have hRl := bk_lt hr1
  have HR1 := Lib.hid hr1
  have HB1 := Lib.hid hb1
  have hz1 := hb1.size
  clear hr1 hb1
  go_wp2_with fail
  refine (rnew_ok c d _ hc1 hc8 hd1 hd8).mono ?_
  rintro e w2 ⟨rfl, hb2⟩
  have HR2 := Lib.hid (HR1.out.below hb2)
  have HB2 := Lib.hid (bstep HB1.out hb2)
  have hz2 := hb2.size
  clear hb2
  go_wp2_with fail
  have hG : ((w2.alloc (.cells #[.int .i64 c, .int .i64 d, .slice none 0 0, .int .i64 0] 30)).alloc (.cells (kc (fun _ => 0) false) 37)).heap[w2.heap.size]? = some (.cells #[.int .i64 c, .int .i64 d, .slice none 0 0, .int .i64 0] 30 (0, 0)) := bk_alloc (bk_new w2 _) _
  have hK := ks_new (w2.alloc (.cells #[.int .i64 c, .int .i64 d, .slice none 0 0, .int .i64 0] 30))
  rw [World.size_alloc] at hK
  have hRw2 := bk_lt HR2.out
  have hPI : PI ((w2.alloc (.cells #[.int .i64 c, .int .i64 d, .slice none 0 0, .int .i64 0] 30)).alloc (.cells (kc (fun _ => 0) false) 37)) R w2.heap.size (w2.heap.size + 1) (w2.heap.size + 2) c d 0 [] (fun _ => 0) none 0 [] :=
    ⟨by rw [Nat.zero_mod]; exact (HR2.out.alloc _).alloc _, hK, .nil _ _ _ _, hG, .inl rfl, ⟨rfl, by simp⟩, by simp, fun _ => ⟨rfl, rfl⟩, by simp, by simp, by simp, by simp⟩
  have HPI := Lib.hid hPI
  have hBK : Below w.heap.size w ((w2.alloc (.cells #[.int .i64 c, .int .i64 d, .slice none 0 0, .int .i64 0] 30)).alloc (.cells (kc (fun _ => 0) false) 37)) := (HB2.out.alloc HB2.out.size _).alloc (by rw [World.size_alloc]; have := HB2.out.size; omega) _
  have HBK := Lib.hid hBK
  clear hG hK hPI hBK
  go_loopw [12] (fun iv W' => ∃ (j out : Nat) (Ls : List (List Int)) (f : Nat → Int) (p' : Option Addr) (cp : Nat) (Vs : List Value), j ≤ n ∧ out ≤ j ∧ iv = .int .i64 j ∧ PI W' R w2.heap.size (w2.heap.size + 1) (w2.heap.size + 2) c d out Ls f p' cp Vs ∧ Below w.heap.size w W') (fun iv _ => n - (intOf iv).toNat)
  case atStart => exact ⟨0, 0, [], fun _ => 0, none, 0, [], by omega, by omega, rfl, HPI.out, HBK.out⟩
  case round =>
    obtain ⟨j, out, Ls, f, p', cp, Vs, hj, hout, rfl, hpi, hb⟩ := hrel
    have HP := Lib.hid hpi
    have HB := Lib.hid hb
    have hzw := hb.size
    have hGl := bk_lt hpi.ref
    have hKl := bk_lt hpi.kept.1
    have hRl3 := bk_lt hpi.ring
    clear hpi hb
    by_cases hjn : j < n
    · have hjn' : (j : Int) < n := by omega
      have hj1 : decide (j < n) = true := by simp; omega
      rcases HOP.out with h0 | ⟨b, o, rfl, hop⟩
      · omega
      obtain ⟨x0, x1, hsl, hwd, hle, hmx⟩ := hop j hjn
      have x0' := keepc HB.out x0
      have x1' := keepc HB.out x1
      have HSL := Lib.hid (hsl.below HB.out)
      have HWD := Lib.hid hwd
      have hbl : b < w.heap.size := block_lt_of_cell x0
      have hqb : ∀ b' o', A j = some ⟨b', o', none⟩ → 1 ≤ M j → b' < w.heap.size := fun b' o' e h1 => by
        rcases hsl with h0 | ⟨b2, o2, e2, hc2⟩
        · omega
        · rw [e] at e2
          simp only [Option.some.injEq, Addr.mk.injEq, and_true] at e2
          rw [e2.1]
          exact block_lt_of_cell (hc2 0 (by omega))
      have HQB := Lib.hid hqb
      clear x0 x1 hsl hwd hop hqb hmx
      generalize M j = m at *
      generalize A j = q at *
      generalize CP j = cq at *
      generalize D j = dj at *
      generalize X j = xj at *
      by_cases hm : 100 < m
      · have e0 : (100 : Int) < (m : Int) := by omega
        go_wp2_with fail
        refine (awake_any _).mono ?_; rintro e w3 ⟨rfl, b3⟩
        go_wp2
        go_ret
        exact ⟨rfl, bstep (HB.out.alloc HB.out.size _) b3⟩
      · have e0 : ¬ (100 : Int) < (m : Int) := by omega
        go_upto_region 14 with fail
        refine wp_abs (fun W0 => PI W0 R w2.heap.size (w2.heap.size + 1) (w2.heap.size + 2) c d out Ls f p' cp Vs ∧ W0.heap[wr.heap.size]? = some (.cells #[.int .i64 dj, .slice q m cq] 40 (0, 0)) ∧ Sl W0 .u32 q m xj ∧ Below w.heap.size w W0 ∧ wr.heap.size < W0.heap.size)
          ⟨HP.out.below (alloc_bl _ _), bk_new wr _, HSL.out.below (alloc_bl _ _), HB.out.alloc HB.out.size _, by simp⟩ ?_
        rintro W0 ⟨hp0, ho0, hs0, hb0, hz0⟩
        have HP0 := Lib.hid hp0
        have HO0 := Lib.hid ho0
        have HS0 := Lib.hid hs0
        have HB0 := Lib.hid hb0
        have y0 : W0.cell? ⟨wr.heap.size, 0, none⟩ = some (.int .i64 dj) := bk_cell ho0 0
        have y1 : W0.cell? ⟨wr.heap.size, 1, none⟩ = some (.slice q m cq) := bk_cell ho0 1
        clear hp0 ho0 hs0 hb0 HP HSL HB x0' x1'
        go_upto_block 2 with fail
        go_cut [14, 15, 16, 17] from 44 to 121 (fun _ _ _ _ wx => ∃ (out' : Nat) (Ls' : List (List Int)) (f' : Nat → Int) (p2 : Option Addr) (cp' : Nat) (Vs' : List Value), out' ≤ j + 1 ∧ PI wx R w2.heap.size (w2.heap.size + 1) (w2.heap.size + 2) c d out' Ls' f' p2 cp' Vs' ∧ Below w.heap.size w wx)
        case first =>
          have hzl : w2.heap.size + 2 ≤ W0.heap.size := by omega
          by_cases hj_1 : dj = 1
          · subst hj_1
            obtain ⟨xs, hxl, hxs, hxe⟩ := HS0.out.list
            subst hxl
            have hxw : ∀ x ∈ xs, 0 ≤ x ∧ x < 4294967296 := fun x hx => by
              obtain ⟨i, hi, e⟩ := mem_getD hx
              rw [← e, hxe i hi]
              exact HWD.out i hi
            have HXW := Lib.hid hxw
            have HXS := Lib.hid hxs
            have hvl := HP0.out.vals.1
            have hmn := HP0.out.many
            have hmod : out % c < c := Nat.mod_lt _ (by omega)
            have kp := keeps R (w2.heap.size + 1) (by omega)
            clear HWD hxw hxs hxe HS0 hle
            go_wp2_with fail
            by_cases hA : xs.length < 1 ∨ d < xs.length
            · have HSA := Lib.hid fun (W : World) (h : PI W R w2.heap.size (w2.heap.size + 1) (w2.heap.size + 2) c d out Ls f p' cp Vs) (fn : Fn) (fs cs : Array Value) => send_arg q xs.length cq fn fs cs c d (out % c) Ls.length W h.ring hc1 hA
              have HRA := Lib.hid fun (W : World) (h : PI W R w2.heap.size (w2.heap.size + 1) (w2.heap.size + 2) c d out Ls f p' cp Vs) => rsend_arg w2.heap.size c d out p' Ls.length cp q xs.length cq W h.ref hA
              go_region_held3 (fun W' => W'.cell? ⟨wr.heap.size, 1, none⟩ = some (.slice q xs.length cq) ∧ PI W' R w2.heap.size (w2.heap.size + 1) (w2.heap.size + 2) c d out Ls f p' cp Vs ∧ Below w.heap.size w W')
                (first | assumption | ((repeat' apply And.intro) <;> first | assumption | exact HP0.out | exact HB0.out | (simp only [*]; done) | exact bdrew (by first | assumption | (simp only [*]; done)) | exact PI.drew (by first | assumption | (simp only [*]; done)) | exact keepc hb (by first | assumption | (simp only [*]; done)) | exact PI.below (by first | assumption | (simp only [*]; done)) hb | exact bstep (by first | assumption | (simp only [*]; done) | exact bdrew (by first | assumption | (simp only [*]; done))) hb))
                (first
                  | (go_at_call 11; refine (HSA.out _ (by first | assumption | (simp only [*]; done)) _ _ _).mono ?_; rintro e w5 ⟨rfl, hb⟩)
                  | (go_at_call 13; refine (HRA.out _ (by first | assumption | (simp only [*]; done))).mono ?_; rintro e w5 ⟨rfl, rfl⟩))
              all_goals
                go_wp2_with fail
                go_meet
                exact ⟨out, Ls, f, p', cp, Vs, by omega, by first | assumption | (simp only [*]; done), by first | assumption | (simp only [*]; done)⟩
            · have hA1 : 1 ≤ xs.length := by omega
              have hA2 : xs.length ≤ d := by omega
              clear hA
              by_cases hF : Ls.length = c
              · have HSA := Lib.hid fun (W : World) (h : PI W R w2.heap.size (w2.heap.size + 1) (w2.heap.size + 2) c d out Ls f p' cp Vs) (fn : Fn) (fs cs : Array Value) => send_full q xs.length cq fn fs cs c d (out % c) W (by have := h.ring; rwa [hF] at this) hc1 hA1 hA2
                have HRA := Lib.hid fun (W : World) (h : PI W R w2.heap.size (w2.heap.size + 1) (w2.heap.size + 2) c d out Ls f p' cp Vs) => rsend_full w2.heap.size c d out p' Ls.length cp q xs.length cq W h.ref hA1 hA2 (by omega)
                clear hF
                go_region_held3 (fun W' => W'.cell? ⟨wr.heap.size, 1, none⟩ = some (.slice q xs.length cq) ∧ PI W' R w2.heap.size (w2.heap.size + 1) (w2.heap.size + 2) c d out Ls f p' cp Vs ∧ Below w.heap.size w W')
                  (first | assumption | ((repeat' apply And.intro) <;> first | assumption | exact HP0.out | exact HB0.out | (simp only [*]; done) | exact bdrew (by first | assumption | (simp only [*]; done)) | exact PI.drew (by first | assumption | (simp only [*]; done)) | exact keepc hb (by first | assumption | (simp only [*]; done)) | exact PI.below (by first | assumption | (simp only [*]; done)) hb | exact bstep (by first | assumption | (simp only [*]; done) | exact bdrew (by first | assumption | (simp only [*]; done))) hb))
                  (first
                    | (go_at_call 11; refine (HSA.out _ (by first | assumption | (simp only [*]; done)) _ _ _).mono ?_; rintro e w5 ⟨rfl, hb⟩)
                    | (go_at_call 13; refine (HRA.out _ (by first | assumption | (simp only [*]; done))).mono ?_; rintro e w5 ⟨rfl, hb⟩))
                all_goals
                  go_wp2_with fail
                  go_meet
                  exact ⟨out, Ls, f, p', cp, Vs, by omega, by first | assumption | (simp only [*]; done), by first | assumption | (simp only [*]; done)⟩
              · rcases HXS.out with h0 | ⟨b', o', rfl, hxc⟩
                · omega
                have hbl' := HQB.out b' o' rfl hA1
                have HXC := Lib.hid hxc
                clear hxc
                have HSO := Lib.hid fun (W : World) (hr : IsRing W R c d (out % c) Ls.length) (hk : KS (w2.heap.size + 1) f W) (hx : ∀ i, i < xs.length → W.cell? ⟨b', o' + i, none⟩ = some (.int .u32 (xs.getD i 0))) => send_ok kp c d (out % c) Ls.length xs.length cq b' o' f (fun i => xs.getD i 0) W hc1 hc8 hd8 hmod (by omega) hN (by omega) hA1 hA2 hr hk (by omega) (by omega) hx (fun i hi => HXW.out _ (getD_mem hi))
                go_region_held3 (fun W' => W'.cell? ⟨wr.heap.size, 1, none⟩ = some (.slice (some ⟨b', o', none⟩) xs.length cq))
                  (first | assumption | exact Kept2.cell hb (by first | assumption | (simp only [*]; done)) (by omega) (by omega) | exact Kept.cell hb (by first | assumption | (simp only [*]; done)) (by omega))
                  (first
                    | (go_at_call 11; refine (HSO.out _ (by exact HP0.out.ring) (by exact HP0.out.kept) (by exact HXC.out)).mono ?_; rintro e w5 ⟨rfl, hr5, hk5, hb⟩; have HR5 := Lib.hid hr5; have HK5 := Lib.hid hk5; have HB5 := Lib.hid (Kept2.trans (show Kept2 R (w2.heap.size + 1) W0 _ from Kept2.of_below (bdrew (Below.refl _ _))) hb); clear hr5 hk5)
                    | (go_at_call 13; refine (rsend_ok w2.heap.size c d out p' Vs cp (some ⟨b', o', none⟩) xs cq _ (by exact HB5.out.blk (by rw [hvl]; exact HP0.out.ref) (by omega) (by omega)) (by exact HP0.out.row.move HP0.out.far (fun b hb hbl => HB5.out.block b hbl (by omega) (by omega))) HP0.out.nil HP0.out.one (by exact .inr ⟨b', o', rfl, fun i hi => HB5.out.cell (HXC.out i hi) (by omega) (by omega)⟩) (fun x hx => wf_u32 (HXW.out x hx).1 (HXW.out x hx).2) hA1 hA2 (by omega) (by omega) (by omega)).mono ?_; rintro e w6 ⟨rfl, p2, q2, cp2, c2, hi6, hs6, hq6, hp6, hq6', hc6, hb⟩; have HPN := Lib.hid (HP0.out.sent xs rfl rfl (by omega) (by omega) HXW.out (by omega) hA1 hA2 HR5.out HK5.out HB5.out hi6 hs6 hq6 hp6 hq6' hc6 hb); have HBN := Lib.hid (Kept.below (HB5.out.below HB0.out (by omega) (by omega) (by omega)) hb (by omega) (by have := HB5.out.size; omega)); clear hi6 hs6 hq6 hp6 hq6' hc6))
                all_goals
                  go_wp2_with fail
                  go_meet
                  exact ⟨out, Ls ++ [xs], _, p2, cp2, _, by omega, HPN.out, HBN.out⟩
          · by_cases hj_2 : dj = 2
            · subst hj_2
              have hmn := HP0.out.many
              have hmod : out % c < c := Nat.mod_lt _ (by omega)
              have kp := keeps R (w2.heap.size + 1) (by omega)
              clear HWD HS0 hle HQB
              cases Ls with
              | nil =>
                go_wp2_with fail
                refine (recv_empty _ _ _ c d (out % c) _ (by exact HP0.out.ring) hc1).mono ?_
                rintro e w5 ⟨rfl, rfl⟩
                go_wp2_with fail
                refine (rrecv_none w2.heap.size c d out p' cp _ (by exact HP0.out.ref)).mono ?_
                rintro e w6 ⟨rfl, rfl⟩
                go_wp2_with fail
                refine (same_yes none none 0 0 [] _ (.inl rfl) (.inl rfl) (by simp)).mono ?_
                rintro e w7 ⟨rfl, hb7⟩
                have HP7 := Lib.hid (HP0.out.below hb7)
                have HB7 := Lib.hid (bstep HB0.out hb7)
                clear hb7
                go_wp2_with fail
                go_meet
                exact ⟨out, [], f, p', cp, Vs, by omega, HP7.out, HB7.out⟩
              | cons xs Ls =>
                cases Vs with
                | nil =>
                  have := HP0.out.vals.1
                  simp at this
                | cons v Vs =>
                  obtain ⟨q0, cq0, hv0, hsl0, hlo0⟩ := HP0.out.vals.2 0 xs rfl
                  simp only [List.getElem?_cons_zero, Option.some.injEq] at hv0
                  subst hv0
                  rcases HP0.out.row with h0 | ⟨b1, o1, rfl, hrow⟩
                  · cases h0
                  have hfar := HP0.out.far b1 o1 rfl
                  have hhd := HP0.out.lies.head
                  obtain ⟨hh1, hh2, hh3, hh4⟩ := HP0.out.lies 0 xs rfl
                  have hroom := HP0.out.room
                  have hvl := HP0.out.vals.1
                  simp only [List.length_cons, Nat.add_right_cancel_iff] at hvl hroom hmn
                  have HSL := Lib.hid hsl0
                  have HLO := Lib.hid hlo0
                  have HROW := Lib.hid hrow
                  have hrq := fun (W : World) (h : PI W R w2.heap.size (w2.heap.size + 1) (w2.heap.size + 2) c d out (xs :: Ls) f (some ⟨b1, o1, none⟩) cp (.slice q0 xs.length cq0 :: Vs)) => recv_some kp c d (out % c) (xs :: Ls).length f W hc1 hc8 hd1 hd8 hmod (by simp) (by simp; omega) hN (by omega) h.ring h.kept
                  rw [hhd.1, hhd.2] at hrq
                  have HRQ := Lib.hid hrq
                  clear hsl0 hlo0 hrow hrq hhd hh1 hh2
                  go_wp2_with fail
                  refine (HRQ.out _ (by exact HP0.out)).mono ?_
                  rintro e w5 ⟨v5, rfl, ho5, hr5, hb5⟩
                  obtain ⟨p5, c5, rfl, hs5, hl5⟩ := own_sl ho5
                  have HR5 := Lib.hid (show IsRing w5 R c d ((out % c + 1) % c) Ls.length by simpa using hr5)
                  have HB5 := Lib.hid hb5
                  have HS5 := Lib.hid hs5
                  have HL5 := Lib.hid hl5
                  clear ho5 hr5 hb5 hs5 hl5
                  go_wp2_with fail
                  refine (rrecv_ok w2.heap.size c d out Ls.length b1 o1 cp q0 xs.length cq0 Vs _ hvl.symm (by exact HB5.out.blk HP0.out.ref (by omega)) (by exact fun i u hi => HB5.out.cell (HROW.out i u hi) (by omega)) (by omega) (by omega) (by omega)).mono ?_
                  rintro e w6 ⟨rfl, o2, cp2, hi6, hs6, hc6, hb6⟩
                  have HP6 := Lib.hid (HP0.out.got rfl rfl (by omega) (by omega) HR5.out HB5.out hi6 hs6 hc6 hb6)
                  have HB6 := Lib.hid (Kept.below (Kept.below HB0.out HB5.out (by omega) (by omega)) hb6 (by omega) (by have := HB5.out.size; omega))
                  have HA6 : Hid (Sl w6 .u32 p5 xs.length (fun i => xs.getD i 0)) := Lib.hid (by
                    rcases HS5.out with h0 | ⟨b, o, e, hc⟩
                    · exact .inl h0
                    · refine .inr ⟨b, o, e, fun i hi => hb6.cell (hc i hi) ?_⟩
                      have := (HL5.out b o e).1
                      omega)
                  have HC6 : Hid (Sl w6 .u32 q0 xs.length (fun i => xs.getD i 0)) := Lib.hid (by
                    rcases HSL.out with h0 | ⟨b, o, e, hc⟩
                    · exact .inl h0
                    · have := HLO.out b o e
                      exact .inr ⟨b, o, e, fun i hi => hb6.cell (HB5.out.cell (hc i hi) (by omega)) (by omega)⟩)
                  clear hi6 hs6 hc6 hb6
                  go_wp2_with fail
                  refine (same_yes p5 q0 c5 cq0 xs _ (by exact HA6.out) (by exact HC6.out) (by omega)).mono ?_
                  rintro e w7 ⟨rfl, hb7⟩
                  have HP7 := Lib.hid (HP6.out.below hb7)
                  have HB7 := Lib.hid (bstep HB6.out hb7)
                  clear hb7
                  go_wp2_with fail
                  go_meet
                  exact ⟨out + 1, Ls, f, _, cp2, Vs, by omega, HP7.out, HB7.out⟩
            · have b1 : (dj == 1) = false := beq_eq_false_iff_ne.2 hj_1
              have b2 : (dj == 2) = false := beq_eq_false_iff_ne.2 hj_2
              go_wp2_with fail
              go_meet
              exact ⟨out, Ls, f, p', cp, Vs, by omega, HP0.out, HB0.out⟩
        case rest =>
          obtain ⟨out', Ls', f', p2, cp', Vs', ho', hp', hb'⟩ := hcut
          clear HP0 HO0 HS0 HB0 HWD HQB y0 y1
          obtain ⟨g0, g1, g2, g3, _, _⟩ := hp'.ref.cells
          have gb := hp'.kept.1.bad
          have hGc := bk_lt hp'.ref
          have hKc := bk_lt hp'.kept.1
          obtain ⟨wn, hwn⟩ : ∃ wn, c * (d + 1) = wn := ⟨_, rfl⟩
          have s1 : IntKind.i64.wrap ((d : Int) + 1) = (d : Int) + 1 := IntWalk.i64_in _ (by omega)
          have s2 : IntKind.i64.wrap ((c : Int) * ((d : Int) + 1)) = (wn : Int) := by
            have e : (c : Int) * ((d : Int) + 1) = (wn : Int) := by rw [← hwn]; push_cast; rfl
            rw [e]
            exact IntWalk.i64_in _ (by omega)
          obtain ⟨ln, hln⟩ : ∃ ln, Ls'.length = ln := ⟨_, rfl⟩
          have hwq := fun (W : World) (h : PI W R w2.heap.size (w2.heap.size + 1) (w2.heap.size + 2) c d out' Ls' f' p2 cp' Vs') => words_any R c d (out' % c) Ls'.length W h.ring hc1 hc8 hd8
          rw [hwn] at hwq
          have HWQ := Lib.hid hwq
          have hlq := fun (W : World) (h : PI W R w2.heap.size (w2.heap.size + 1) (w2.heap.size + 2) c d out' Ls' f' p2 cp' Vs') => lies_any (w2.heap.size + 1) R c d out' f' Ls' p2 cp' (w2.heap.size + 2) Vs' W (by omega) hc1 hc8 hd1 hd8 (by omega) h.many h.room h.ring h.kept h.lies h.row h.vals
          rw [hln] at hlq
          have HLQ := Lib.hid hlq
          have hnq := fun (W : World) (h : PI W R w2.heap.size (w2.heap.size + 1) (w2.heap.size + 2) c d out' Ls' f' p2 cp' Vs') => len_any R c d (out' % c) Ls'.length W h.ring
          rw [hln] at hnq
          have HNQ := Lib.hid hnq
          have hzc := hb'.size
          rw [hln] at g2
          clear hwn hwq hlq hnq hln
          go_wp2_with fail
          go_region_held3 (fun W' => W'.cell? ⟨w2.heap.size, 0, none⟩ = some (.int .i64 c) ∧ W'.cell? ⟨w2.heap.size, 1, none⟩ = some (.int .i64 d) ∧ W'.cell? ⟨w2.heap.size, 2, none⟩ = some (.slice p2 ln cp') ∧ W'.cell? ⟨w2.heap.size, 3, none⟩ = some (.int .i64 out') ∧ W'.cell? ⟨w2.heap.size + 1, 72, none⟩ = some (.bool false) ∧ PI W' R w2.heap.size (w2.heap.size + 1) (w2.heap.size + 2) c d out' Ls' f' p2 cp' Vs' ∧ Below w.heap.size w W')
            (first | assumption | ((repeat' apply And.intro) <;> first | assumption | (simp only [*]; done) | exact bdrew (by first | assumption | (simp only [*]; done)) | exact PI.drew (by first | assumption | (simp only [*]; done)) | exact keepc hb (by first | assumption | (simp only [*]; done)) | exact PI.below (by first | assumption | (simp only [*]; done)) hb | exact bstep (by first | assumption | (simp only [*]; done) | exact bdrew (by first | assumption | (simp only [*]; done))) hb))
            (first
              | (go_at_call 18; refine (HNQ.out _ (by first | assumption | (simp only [*]; done))).mono ?_; rintro e w5 ⟨rfl, rfl⟩)
              | (go_at_call 19; refine (HWQ.out _ (by first | assumption | (simp only [*]; done))).mono ?_; rintro e w5 ⟨rfl, hb⟩)
              | (go_at_call 20; refine (HLQ.out _ (by first | assumption | (simp only [*]; done))).mono ?_; rintro e w5 ⟨rfl, hb⟩))
          go_wp2
          exact ⟨⟨j + 1, out', Ls', f', p2, cp', Vs', by omega, ho', by go_num, by first | assumption | (simp only [*]; done), by first | assumption | (simp only [*]; done)⟩, by simp [intOf]; omega⟩
    · have hjn' : ¬ (j : Int) < n := by omega
      have hj1 : decide (j < n) = false := by simp; omega
      go_wp2_with fail
      refine (awake_any _).mono ?_; rintro e w3 ⟨rfl, b3⟩
      go_wp2
      go_ret
      exact ⟨rfl, bstep HB.out b3⟩
theorem RingPlays_any (c d : Int) (p : Option Addr) (n cap : Nat) (D : Nat → Int) (A : Nat → Option Addr) (M CP : Nat → Nat) (X : Nat → Nat → Int) (w : World) (hO : OpsW w p n D A M CP X) :
    Calls Try.prog 3 #[.int .i64 c, .int .i64 d, .slice p n cap] w fun e w' => e = .returned (.bool true) ∧ Below w.heap.size w w' := by
  by_cases h : 200 < n ∨ (c < 1 ∨ 8 < c ∨ d < 1 ∨ 8 < d)
  · exact plays_bad c d p n cap w h
  · obtain ⟨c', rfl⟩ : ∃ q : Nat, c = q := ⟨c.toNat, by omega⟩
    obtain ⟨d', rfl⟩ : ∃ q : Nat, d = q := ⟨d.toNat, by omega⟩
    exact plays_good c' d' p n cap D A M CP X w (by omega) (by omega) (by omega) (by omega) (by omega) hO
end Go.Proofs.Ytbgpimdigkiflaa
