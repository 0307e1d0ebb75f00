/- A queue's calls by its list: All, Push, Head. -/
import Derived.Test.YthdmbnbamlmciaaQ
namespace Go.Proofs.Ythdmbnbamlmciaa
open Go.RowKit
set_option linter.unusedVariables false
set_option linter.unusedSimpArgs false
/-- a queue: its list -/
def IsQ (w : World) (g : Nat) (L : List Int) : Prop := ∃ l a m, RawQ w g l a m ∧ a < 8 ∧ qs l a m = L ∧ Good L
theorem IsQ.lt {w : World} {g : Nat} {L : List Int} (h : IsQ w g L) : g < w.heap.size := by
  obtain ⟨l, a, m, h, _⟩ := h
  exact bk_lt h
theorem IsQ.below {w w1 : World} {g : Nat} {L : List Int} (h : IsQ w g L) (hb : Below w.heap.size w w1) : IsQ w1 g L := by
  obtain ⟨l, a, m, h, r⟩ := h
  exact ⟨l, a, m, h.below hb, r⟩
theorem asked_nil (n : Int) (w : World) :
    Calls Try.prog 19 #[.pointer none, .int .i64 n] w fun e w' => e = .returned (.int .i64 1) ∧ w' = w := by
  go_enter Try.func19, Try.ntmps19
  go_wp2
  go_ret
  exact ⟨rfl, rfl⟩
theorem asked_un (g : Nat) (n : Int) (w : World) (h : w.cell? ⟨g, 0, none⟩ = some (.bool false)) :
    Calls Try.prog 19 #[.pointer (some ⟨g, 0, none⟩), .int .i64 n] w fun e w' => e = .returned (.int .i64 1) ∧ w' = w := by
  go_enter Try.func19, Try.ntmps19
  go_wp2
  go_ret
  exact ⟨rfl, rfl⟩
theorem asked_bad (g : Nat) (n : Int) (w : World) (h : w.cell? ⟨g, 0, none⟩ = some (.bool true)) (hn : n < 1 ∨ 8 < n) :
    Calls Try.prog 19 #[.pointer (some ⟨g, 0, none⟩), .int .i64 n] w fun e w' => e = .returned (.int .i64 2) ∧ w' = w := by
  have hn' : n < 1 ∨ (¬ n < 1 ∧ 8 < n) := by omega
  rcases hn' with h1 | ⟨h1, h2⟩
  all_goals
    go_enter Try.func19, Try.ntmps19
    go_wp2
    go_ret
    exact ⟨rfl, rfl⟩
theorem asked_ok (g : Nat) (n : Int) (w : World) (h : w.cell? ⟨g, 0, none⟩ = some (.bool true)) (h1 : 1 ≤ n) (h8 : n ≤ 8) :
    Calls Try.prog 19 #[.pointer (some ⟨g, 0, none⟩), .int .i64 n] w fun e w' => e = .returned (.int .i64 0) ∧ w' = w := by
  have h2 : ¬ n < 1 := by omega
  have h3 : ¬ 8 < n := by omega
  go_enter Try.func19, Try.ntmps19
  go_wp2
  go_ret
  exact ⟨rfl, rfl⟩
theorem qs_snoc (l : Nat → Int) (a k : Nat) : qs l a (k + 1) = qs l a k ++ [l ((a + k) % 8)] := by
  unfold qs
  rw [List.range_succ, List.map_append]
  rfl
theorem wf_small {n : Int} (h0 : -1000 ≤ n) (h1 : n ≤ 1000) : (Lit.int .i64 n).wf = true := by
  have e1 : IntKind.i64.min = -9223372036854775808 := rfl
  have e2 : IntKind.i64.max = 9223372036854775807 := rfl
  simp only [Lit.wf, Bool.and_eq_true, decide_eq_true_eq]
  omega
set_option maxHeartbeats 1000000 in
theorem all_raw (g : Nat) (l : Nat → Int) (a m : Nat) (w : World) (h : RawQ w g l a m) (ha : a < 8) (hm : m ≤ 8) (hx : ∀ k, k < m → 1 ≤ l ((a + k) % 8) ∧ l ((a + k) % 8) ≤ 8) :
    Calls Try.prog 14 #[.pointer (some ⟨g, 0, none⟩)] w fun e w' => ∃ v, e = .returned v ∧ w'.ownsInts w.heap.size 3 .i64 v (qs l a m) ∧ Below w.heap.size w w' := by
  have c10 := h.many
  have HX := Lib.hid hx
  have H := Lib.hid h
  clear hx h
  go_enter Try.func14, Try.ntmps14
  go_wp2
  go_loopw [3, 11] (fun v n W' => ∃ k, k ≤ m ∧ n = .int .i64 (k : Nat) ∧ W'.ownsInts w.heap.size 3 .i64 v (qs l a k) ∧ Below w.heap.size w W') (fun _ n _ => m - (intOf n).toNat)
  case atStart => exact ⟨0, by omega, rfl, World.ownsInts_nil _ _ _ _, Below.refl _ _⟩
  case round =>
    obtain ⟨k, hk, rfl, ho, hb⟩ := hrel
    by_cases hkm : k < m
    · have hkm' : (k : Int) < m := by omega
      have hr := H.out.below hb
      obtain ⟨x1, x8⟩ := HX.out k hkm
      have HO := Lib.hid ho
      have HB := Lib.hid hb
      have HR := Lib.hid hr
      clear ho hb hr
      go_wp2_with fail
      refine (place_any g l a m k _ HR.out ha (by omega)).mono ?_
      rintro e w1 ⟨rfl, hb1⟩
      have c1 := (HR.out.below hb1).at ((a + k) % 8) (by omega)
      have o1 := own_below HO.out hb1
      have hB := HB.out.size
      have hB1 := hb1.size
      have hlen := qs_length l a k
      have hlen2 : (qs l a k).length < 100000000 := by omega
      clear hlen
      have HB1 := Lib.hid (bstep HB.out hb1)
      clear hb1
      go_wp2_with (at_builtin; refine app1 rfl _ _ _ rfl ie22 _ (qs l a k) (l ((a + k) % 8)) (by rfl) o1 (by rfl) (wf_small (by omega) (by omega)) hlen2 (by omega) ?_; intro v' w2 o2 hb2 hg2)
      refine ⟨⟨k + 1, by omega, by go_num, by rw [qs_snoc]; exact o2, HB1.out.trans hb2⟩, by simp [intOf]; omega⟩
    · have : k = m := by omega
      subst this
      go_wp2
      go_ret
      exact ⟨_, rfl, ho, hb⟩
theorem all_any (g : Nat) (L : List Int) (w : World) (h : IsQ w g L) :
    Calls Try.prog 14 #[.pointer (some ⟨g, 0, none⟩)] w fun e w' => ∃ v, e = .returned v ∧ w'.ownsInts w.heap.size 3 .i64 v L ∧ Below w.heap.size w w' := by
  obtain ⟨l, a, m, h, ha, rfl, hg⟩ := h
  have hl := hg.le
  rw [qs_length] at hl
  exact all_raw g l a m w h ha hl fun k hk => hg.2 _ (List.mem_map.2 ⟨k, List.mem_range.2 hk, rfl⟩)
/-- what Index answers -/
def ixOf (zs : List Int) (n : Int) : Int := if n ∈ zs then (idx zs n : Int) else -1
theorem index_any (p : Option Addr) (cap : Nat) (zs : List Int) (n : Int) (w : World) (hs : Sl w .i64 p zs.length (fun i => zs.getD i 0)) (hL : zs.length ≤ 100000) :
    Calls Try.prog 25 #[.slice p zs.length cap, .int .i64 n] w fun e w' => e = .returned (.int .i64 (ixOf zs n)) ∧ w' = w := by
  have hle := idx_le zs n
  go_enter Try.func25, Try.ntmps25
  go_wp2
  go_loop [8] (fun i => ∃ k : Nat, k ≤ idx zs n ∧ i = .int .i64 k) (fun i => zs.length - (intOf i).toNat)
  case atStart => exact ⟨0, by omega, rfl⟩
  case round =>
    obtain ⟨k, hk, rfl⟩ := hrel
    by_cases hkL : k < zs.length
    · have hkL' : (k : Int) < zs.length := by omega
      rcases hs with h0 | ⟨b, o, rfl, hc⟩
      · omega
      have c1 := hc k hkL
      have HC := Lib.hid hc
      clear hc
      by_cases he : zs.getD k 0 = n
      · have hkn : k = idx zs n := by
          by_cases h : k = idx zs n
          · exact h
          · exact absurd he (idx_before zs n k (by omega))
        have hm : n ∈ zs := by
          by_cases h : n ∈ zs
          · exact h
          · have := idx_not zs n h; omega
        have hfin : ixOf zs n = k := by rw [ixOf, if_pos hm, hkn]
        have HF := Lib.hid hfin
        clear hfin hkn hm
        simp only [he] at c1
        clear he hle
        go_wp2
        go_ret
        exact ⟨by rw [HF.out]; rfl, rfl⟩
      · have hkn : k + 1 ≤ idx zs n := by
          by_cases h : k = idx zs n
          · by_cases h2 : n ∈ zs
            · rw [h] at he; exact absurd (idx_at zs n h2) he
            · have := idx_not zs n h2; omega
          · omega
        have he1 : (n == zs.getD k 0) = false := beq_eq_false_iff_ne.2 fun e => he e.symm
        obtain ⟨x, hx⟩ : ∃ x, zs.getD k 0 = x := ⟨_, rfl⟩
        simp only [hx] at c1 he1
        clear hx he
        go_wp2
        refine ⟨⟨k + 1, hkn, by go_num⟩, by simp [intOf]; omega⟩
    · have hm : n ∉ zs := fun h => by have := idx_lt zs n h; omega
      have hfin : ixOf zs n = -1 := if_neg hm
      have HF := Lib.hid hfin
      clear hfin hm
      have hkL' : ¬ (k : Int) < zs.length := by omega
      go_wp2
      go_ret
      exact ⟨by rw [HF.out]; rfl, rfl⟩
theorem contains_yes (p : Option Addr) (cap : Nat) (zs : List Int) (n : Int) (w : World) (hs : Sl w .i64 p zs.length (fun i => zs.getD i 0)) (hL : zs.length ≤ 100000) (h : n ∈ zs) :
    Calls Try.prog 20 #[.slice p zs.length cap, .int .i64 n] w fun e w' => e = .returned (.bool true) ∧ w' = w := by
  have k := index_any p cap zs n w hs hL
  rw [ixOf, if_pos h] at k
  have h0 : (0 : Int) ≤ idx zs n := by omega
  generalize idx zs n = i at k h0
  have HK := Lib.hid k
  clear k hs
  go_enter Try.func20, Try.ntmps20
  go_wp2_with fail
  refine HK.out.mono ?_; rintro e w1 ⟨rfl, rfl⟩
  go_wp2
  go_ret
  exact ⟨rfl, rfl⟩
theorem contains_no (p : Option Addr) (cap : Nat) (zs : List Int) (n : Int) (w : World) (hs : Sl w .i64 p zs.length (fun i => zs.getD i 0)) (hL : zs.length ≤ 100000) (h : n ∉ zs) :
    Calls Try.prog 20 #[.slice p zs.length cap, .int .i64 n] w fun e w' => e = .returned (.bool false) ∧ w' = w := by
  have k := index_any p cap zs n w hs hL
  rw [ixOf, if_neg h] at k
  have HK := Lib.hid k
  clear k hs
  go_enter Try.func20, Try.ntmps20
  go_wp2_with fail
  refine HK.out.mono ?_; rintro e w1 ⟨rfl, rfl⟩
  go_wp2
  go_ret
  exact ⟨rfl, rfl⟩
theorem push_any (g : Nat) (L : List Int) (n : Int) (w : World) (h : IsQ w g L) :
    Calls Try.prog 10 #[.pointer (some ⟨g, 0, none⟩), .int .i64 n] w fun e w' => e = .returned (.int .i64 (pushE L n)) ∧ IsQ w' g (pushL L n) ∧ Kept g w w' := by
  have h' := h
  obtain ⟨l, a, m, hr, ha, hq, hg⟩ := h'
  have c0 := hr.made
  have c10 := hr.many
  have hlen : L.length = m := by rw [← hq, qs_length]
  have H := Lib.hid h
  have HR := Lib.hid hr
  have HQ := Lib.hid hq
  have HL := Lib.hid hlen
  have HG := Lib.hid hg
  clear h hr hq hlen hg
  by_cases h1 : n < 1 ∨ 8 < n
  · have he : pushE L n = 2 := by simp [pushE, h1]
    have hl : pushL L n = L := by simp [pushL, he]
    rw [he, hl]
    clear he hl
    go_enter Try.func10, Try.ntmps10
    go_wp2_with fail
    refine (asked_bad g n _ c0 h1).mono ?_; rintro e w1 ⟨rfl, rfl⟩
    go_wp2
    go_ret
    exact ⟨rfl, H.out, Kept.refl _ _⟩
  · have n1 : 1 ≤ n := by omega
    have n8 : n ≤ 8 := by omega
    have hL8 := HG.out.le
    by_cases h2 : n ∈ L
    · have he : pushE L n = 5 := by simp [pushE, h1, h2]
      have hl : pushL L n = L := by simp [pushL, he]
      rw [he, hl]
      clear he hl
      have H2 := Lib.hid h2
      clear h2 h1
      go_enter Try.func10, Try.ntmps10
      go_wp2_with fail
      refine (asked_ok g n _ c0 n1 n8).mono ?_; rintro e w1 ⟨rfl, rfl⟩
      go_wp2_with fail
      refine (all_any g L _ H.out).mono ?_; rintro e w2 ⟨v, rfl, ho, hb⟩
      obtain ⟨p, c, rfl, hsl, _⟩ := own_sl ho
      have HS := Lib.hid hsl
      have HB := Lib.hid hb
      clear hsl ho hb
      go_wp2_with fail
      refine (contains_yes p c L n _ HS.out (by omega) H2.out).mono ?_; rintro e w3 ⟨rfl, rfl⟩
      go_wp2
      go_ret
      exact ⟨rfl, H.out.below HB.out, Kept.of_below HB.out⟩
    · have he : pushE L n = 0 := by simp [pushE, h1, h2]
      have hl : pushL L n = L ++ [n] := by simp [pushL, he]
      have hm8 := HG.out.lt n1 n8 h2
      have hgood := HG.out.push n
      rw [hl] at hgood
      rw [he, hl]
      have hm : m < 8 := by have := HL.out; omega
      clear he hl
      have H2 := Lib.hid h2
      clear h2 h1
      go_enter Try.func10, Try.ntmps10
      go_wp2_with fail
      refine (asked_ok g n _ c0 n1 n8).mono ?_; rintro e w1 ⟨rfl, rfl⟩
      go_wp2_with fail
      refine (all_any g L _ H.out).mono ?_; rintro e w2 ⟨v, rfl, ho, hb⟩
      obtain ⟨p, c, rfl, hsl, _⟩ := own_sl ho
      have HS := Lib.hid hsl
      have HB := Lib.hid hb
      have HR2 := Lib.hid (HR.out.below hb)
      have d10 := HR2.out.many
      clear hsl ho hb c0 c10
      go_wp2_with fail
      refine (contains_no p c L n _ HS.out (by omega) H2.out).mono ?_; rintro e w3 ⟨rfl, rfl⟩
      go_wp2_with fail
      refine (place_any g l a m m _ HR2.out ha (by omega)).mono ?_; rintro e w4 ⟨rfl, hb4⟩
      have HR4 := Lib.hid (HR2.out.below hb4)
      have HB4 := Lib.hid hb4
      have x1 := HR4.out.at ((a + m) % 8) (by omega)
      have x2 := HR4.out.many
      have x3 : w4.frozen? ⟨g, 1 + (a + m) % 8, none⟩ = false := bk_frozen HR4.out _
      have x4 : w4.frozen? ⟨g, 10, none⟩ = false := bk_frozen HR4.out _
      clear hb4 d10
      go_wp2
      go_ret
      refine ⟨rfl, ⟨updq l ((a + m) % 8) n, a, m + 1, ?_, ha, ?_, hgood⟩, ?_⟩
      · exact (HR4.out.set _ n (by omega)).setMany (m + 1)
      · rw [qs_push _ _ _ _ hm, HQ.out]
      · exact (((Kept.of_below HB.out).then_below HB4.out).setCell _ _).setCell _ _
end Go.Proofs.Ythdmbnbamlmciaa
