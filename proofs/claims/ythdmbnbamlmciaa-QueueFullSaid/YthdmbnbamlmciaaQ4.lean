/- A queue's calls by its list: Drop. -/
import Derived.Test.YthdmbnbamlmciaaQ3
namespace Go.Proofs.Ythdmbnbamlmciaa
open Go.RowKit
set_option linter.unusedVariables false
set_option linter.unusedSimpArgs false
theorem place_v (g : Nat) (l : Nat → Int) (a m : Nat) (v : Int) (w : World) (h : RawQ w g l a m) (ha : a < 8) (h0 : 0 ≤ v) (h8 : v ≤ 8) :
    Calls Try.prog 21 #[.pointer (some ⟨g, 0, none⟩), .int .i64 v] w fun e w' => e = .returned (.pointer (some ⟨g, 1 + (a + v.toNat) % 8, none⟩)) ∧ Below w.heap.size w w' := by
  obtain ⟨k, rfl⟩ : ∃ k : Nat, v = k := ⟨v.toNat, by omega⟩
  exact place_any g l a m k w h ha (by omega)
set_option maxHeartbeats 1000000 in
theorem forward_any (g B : Nat) (l : Nat → Int) (a m i : Nat) (w : World) (h : RawQ w g l a m) (hB : w.cell? ⟨B, 0, none⟩ = some (.pointer (some ⟨g, 0, none⟩))) (hBg : B ≠ g) (ha : a < 8) (hi : i < 8) :
    Calls Try.prog 26 #[.int .i64 i, .pointer (some ⟨B, 0, none⟩)] w fun e w' => e = .returned (.tuple #[]) ∧ RawQ w' g (updq l ((a + i) % 8) (l ((a + (i + 1)) % 8))) a m ∧ Kept g w w' := by
  have e1 : IntKind.i64.wrap ((i : Int) + 1) = (i : Int) + 1 := IntWalk.i64_in _ (by omega)
  have e2 : ((i : Int) + 1).toNat = i + 1 := by omega
  have H := Lib.hid h
  have hBl := block_lt_of_cell hB
  clear h
  go_enter Try.func26, Try.ntmps26
  go_wp2_with fail
  have hb0 : Kept g w w := Kept.refl _ _
  have hk0 : Kept g w w.drew := hb0.drew
  have hc0 := H.out.at ((a + (i + 1)) % 8) (by omega)
  have hf0 : w.frozen? ⟨g, 1 + (a + i) % 8, none⟩ = false := bk_frozen H.out _
  have hr0 : RawQ w.drew g l a m := H.out
  go_region_with (go_at_call 21
                  refine (place_v g l a m _ _ (by assumption) ha (by omega) (by omega)).mono ?_
                  rintro e w1 ⟨rfl, hb1⟩
                  have hB1 : w1.cell? ⟨B, 0, none⟩ = some (.pointer (some ⟨g, 0, none⟩)) := keepc hb1 (by assumption)
                  have hr1 : RawQ w1 g l a m := RawQ.below (by assumption) hb1
                  have hk1 : Kept g w w1 := Kept.then_below (by assumption) hb1
                  have hc1 := hr1.at ((a + (i + 1)) % 8) (by omega)
                  have hd1 := hr1.at ((a + i) % 8) (by omega)
                  have hf1 : w1.frozen? ⟨g, 1 + (a + i) % 8, none⟩ = false := bk_frozen hr1 _
                  clear hb1; (first | rw [e2] | rw [Int.toNat_natCast]))
  all_goals
    go_end0
    refine ⟨rfl, ?_, ?_⟩
    · have := (RawQ.set (by assumption : RawQ w1 g l a m) ((a + i) % 8) (l ((a + (i + 1)) % 8)) (by omega))
      exact this
    · exact Kept.setCell (by assumption) _ _
theorem moved_next (l : Nat → Int) (a k i m : Nat) (ha : a < 8) (hi : i + 1 < 8) (hk : k ≤ i) : qc (updq (moved l a k i) ((a + i) % 8) (moved l a k i ((a + (i + 1)) % 8))) a m = qc (moved l a k (i + 1)) a m := by
  apply qc_congr
  intro j hj
  rw [moved_step l a k i ha hi hk]
  simp [hj]
theorem erase_take {L : List Int} {n : Int} {l : Nat → Int} {a m : Nat} (ha : a < 8) (hm : m + 1 ≤ 8) (hq : qs l a (m + 1) = L) (hn : n ∈ L) : qs (moved l a (idx L n) m) a m = L.erase n := by
  have h1 := idx_lt L n hn
  have h2 : L.length = m + 1 := by rw [← hq, qs_length]
  rw [moved_all l a (idx L n) m ha hm (by omega), hq, erase_idx L n hn]
set_option maxHeartbeats 2000000 in
theorem drop_any (g : Nat) (L : List Int) (n : Int) (w : World) (h : IsQ w g L) :
    Calls Try.prog 17 #[.pointer (some ⟨g, 0, none⟩), .int .i64 n] w fun e w' => e = .returned (.int .i64 (dropE L n)) ∧ IsQ w' g (L.erase n) ∧ Kept g w w' := by
  have hmf : ∀ (fn : Fn) (first cap : Array Value) (w : World), (Instr.makeFunc fn first cap).run Try.prog w = .ok (.func fn first cap) w := fun _ _ _ _ => rfl
  have h' := h
  obtain ⟨l, a, m, hr, ha, hq, hg⟩ := h'
  have hgl := bk_lt hr
  have c0 : (w.alloc (.cells #[.pointer (some ⟨g, 0, none⟩)] 24)).cell? ⟨g, 0, none⟩ = some (.bool true) := keepc (by go_grown) hr.made
  have hL8 := hg.le
  have H := Lib.hid (h.below (w1 := w.alloc (.cells #[.pointer (some ⟨g, 0, none⟩)] 24)) (by go_grown))
  have HR := Lib.hid (hr.below (w1 := w.alloc (.cells #[.pointer (some ⟨g, 0, none⟩)] 24)) (by go_grown))
  have HK := Lib.hid (Kept.of_below (g := g) (w := w) (w' := w.alloc (.cells #[.pointer (some ⟨g, 0, none⟩)] 24)) (by go_grown))
  have hP : (w.alloc (.cells #[.pointer (some ⟨g, 0, none⟩)] 24)).cell? ⟨w.heap.size, 0, none⟩ = some (.pointer (some ⟨g, 0, none⟩)) := (bk_cell (bk_new w _) 0).trans rfl
  have HP := Lib.hid hP
  have HQ := Lib.hid hq
  have HG := Lib.hid hg
  clear h hr hq hg hP
  by_cases h1 : n < 1 ∨ 8 < n
  · have he : dropE L n = 2 := by simp [dropE, h1]
    have hne : n ∉ L := fun hn => by have := HG.out.2 n hn; omega
    have hl : L.erase n = L := erase_not hne
    rw [he, hl]
    clear he hl hne
    go_enter Try.func17, Try.ntmps17
    go_wp2_with fail
    refine (asked_bad g n _ c0 h1).mono ?_; rintro e w1 ⟨rfl, rfl⟩
    go_wp2
    go_ret
    exact ⟨rfl, H.out, HK.out⟩
  · have n1 : 1 ≤ n := by omega
    have n8 : n ≤ 8 := by omega
    by_cases h2 : n ∈ L
    · have he : dropE L n = 0 := by simp [dropE, h1, h2]
      have hgood := HG.out.erase n
      have hix := idx_lt L n h2
      have hlen : L.length = m := by rw [← HQ.out, qs_length]
      obtain ⟨m, rfl⟩ : ∃ q, m = q + 1 := ⟨m - 1, by omega⟩
      have hfin := erase_take ha (by omega) HQ.out h2
      rw [he, ← hfin]
      rw [← hfin] at hgood
      have hio : ixOf L n = (idx L n : Nat) := by rw [ixOf, if_pos h2]
      have hixm : idx L n ≤ m := by omega
      have hm8 : m + 1 ≤ 8 := by omega
      have HGo := Lib.hid hgood
      have HIO := Lib.hid hio
      clear he hfin hgood hio h2 h1 hix hlen
      generalize hk : idx L n = k at *
      have HKK := Lib.hid hk
      clear hk
      go_enter Try.func17, Try.ntmps17
      go_wp2_with fail
      refine (asked_ok g n _ c0 n1 n8).mono ?_; rintro e w1 ⟨rfl, rfl⟩
      go_wp2_with fail
      refine (all_any g L _ H.out).mono ?_; rintro e w2 ⟨v, rfl, ho, hb⟩
      obtain ⟨p, c, rfl, hsl, _⟩ := own_sl ho
      have HS := Lib.hid hsl
      have HR2 := Lib.hid (HR.out.below hb)
      have HK2 := Lib.hid (HK.out.then_below hb)
      have hP2 := keepc hb HP.out
      clear hsl ho hb c0
      go_wp2_with fail
      refine (index_any p c L n _ HS.out (by omega)).mono ?_; rintro e w3 ⟨rfl, rfl⟩
      rw [HIO.out]
      go_wp2_with fail
      go_loopw [8] (fun i W' => ∃ j : Nat, k ≤ j ∧ j ≤ m ∧ i = .int .i64 j ∧ RawQ W' g (moved l a k j) a (m + 1) ∧ W'.cell? ⟨w.heap.size, 0, none⟩ = some (.pointer (some ⟨g, 0, none⟩)) ∧ Kept g w W') (fun i _ => m - (intOf i).toNat)
      case atStart => exact ⟨k, Nat.le_refl _, hixm, rfl, by rw [moved_self]; exact HR2.out, hP2, HK2.out⟩
      case round =>
        obtain ⟨j, hkj, hj, rfl, hr3, hP3, hk3⟩ := hrel
        have d10 := hr3.many
        have HR3 := Lib.hid hr3
        have HK3 := Lib.hid hk3
        clear hr3 hk3 hP2
        have s1 : IntKind.i64.wrap ((j : Int) + 1) = (j : Int) + 1 := IntWalk.i64_in _ (by omega)
        by_cases hjm : j < m
        · have t1 : (j : Int) + 1 < (m : Int) + 1 := by omega
          go_wp2_with fail
          refine (forward_any g w.heap.size (moved l a k j) a (m + 1) j _ HR3.out hP3 (by omega) ha (by omega)).mono ?_
          rintro e w4 ⟨rfl, hr4, hk4⟩
          have hP4 := hk4.cell hP3 (by omega)
          have hr4' : RawQ w4 g (moved l a k (j + 1)) a (m + 1) := by
            unfold RawQ at hr4 ⊢
            rw [moved_next l a k j (m + 1) ha (by omega) hkj] at hr4
            exact hr4
          have HR4 := Lib.hid hr4'
          have HK4 := Lib.hid (HK3.out.trans hk4)
          clear hr4 hr4' hk4 d10
          go_wp2
          refine ⟨⟨j + 1, by omega, by omega, by go_num, HR4.out, hP4, HK4.out⟩, by simp [intOf]; omega⟩
        · have hjm2 : j = m := by omega
          subst hjm2
          have t1 : ¬ (j : Int) + 1 < (j : Int) + 1 := by omega
          have d11 : wr.frozen? ⟨g, 10, none⟩ = false := bk_frozen HR3.out _
          go_wp2
          go_ret
          refine ⟨rfl, ⟨moved l a k j, a, j, ?_, ha, rfl, HGo.out⟩, ?_⟩
          · exact HR3.out.setMany j
          · exact HK3.out.setCell _ _
    · have he : dropE L n = 4 := by simp [dropE, h1, h2]
      have hl : L.erase n = L := erase_not h2
      rw [he, hl]
      have hio : ixOf L n = -1 := by rw [ixOf, if_neg h2]
      have HIO := Lib.hid hio
      clear he hl h2 h1 hio
      go_enter Try.func17, Try.ntmps17
      go_wp2_with fail
      refine (asked_ok g n _ c0 n1 n8).mono ?_; rintro e w1 ⟨rfl, rfl⟩
      go_wp2_with fail
      refine (all_any g L _ H.out).mono ?_; rintro e w2 ⟨v, rfl, ho, hb⟩
      obtain ⟨p, c, rfl, hsl, _⟩ := own_sl ho
      have HS := Lib.hid hsl
      have HB := Lib.hid hb
      clear hsl ho hb
      go_wp2_with fail
      refine (index_any p c L n _ HS.out (by omega)).mono ?_; rintro e w3 ⟨rfl, rfl⟩
      rw [HIO.out]
      go_wp2
      go_ret
      exact ⟨rfl, H.out.below HB.out, HK.out.then_below HB.out⟩
end Go.Proofs.Ythdmbnbamlmciaa
