/- The law ChansPlays: one call on both. -/
import Derived.Test.YtofkgceenppdbaaLPlyP
namespace Go.Proofs.Ytofkgceenppdbaa
open Go.RowKit
set_option linter.unusedVariables false
set_option linter.unusedSimpArgs false
set_option maxRecDepth 100000 in
set_option maxHeartbeats 4000000 in
theorem play_any (L g Lg : Nat) (C : Cfg) (K : CX) (pC : Option Addr) (cC t : Nat) (LL : Nat → List (List Int)) (d pt ch : Int) (q : Option Addr) (xs : List Int) (cp : Nat) (w : World) (h : PS L g Lg C K pC cC t LL w) (hok : CkOk C) (hbef : Bef K C.nC Lg) (hLgg : Lg ≤ g) (hLg : L ≤ g)
    (hpC : ∀ b o, pC = some ⟨b, o, none⟩ → 0 < C.nC → b < L) (ht : t ≤ 1000) (hs : Sl w .u32 q xs.length (fun i => xs.getD i 0)) (hw : ∀ i, i < xs.length → 0 ≤ xs.getD i 0 ∧ xs.getD i 0 < 4294967296) (hq : ∀ b o, q = some ⟨b, o, none⟩ → 0 < xs.length → b < L) :
    Calls Try.prog 24 #[.pointer (some ⟨K.X, 0, none⟩), .pointer (some ⟨g, 0, none⟩), .agg #[.int .i64 d, .int .i64 pt, .int .i64 ch, .slice q xs.length cp]] w fun e w' => e = .returned (.bool true) ∧ (∃ LL', PS L g Lg C K pC cC (t + 1) LL' w') ∧ Below L w w' ∧ KeptP K C.nC g w w' := by
  have hgw : g < w.heap.size := by
    obtain ⟨_, _, _, _, _, _, _, _, hd, _⟩ := h.r
    exact bk_lt hd
  have hbox := bk_new w (.cells #[.int .i64 d, .int .i64 pt, .int .i64 ch, .slice q xs.length cp] 43)
  have hba : Below w.heap.size w (w.alloc (.cells #[.int .i64 d, .int .i64 pt, .int .i64 ch, .slice q xs.length cp] 43)) := (Below.refl _ _).alloc (Nat.le_refl _) _
  have hn16 := hok.1.N.2.2.2.2
  have hLw : L ≤ w.heap.size := Nat.le_of_lt (Nat.lt_of_le_of_lt hLg hgw)
  have hfx : w.heap.size ≠ K.fb ∧ ∀ i, i < C.nC → w.heap.size ≠ K.R i := ⟨by have := hbef.fb; omega, fun i hi => by have := hbef.R i hi; omega⟩
  have HP := Lib.hid h
  have HS := Lib.hid hs
  have HW := Lib.hid hw
  have HQ := Lib.hid hq
  have HPC := Lib.hid hpC
  have HBX := Lib.hid hbox
  have HBA := Lib.hid hba
  have HBF := Lib.hid hbef
  have HFX := Lib.hid hfx
  clear h hs hw hq hpC hbox hba hbef hfx
  by_cases h1 : d = 1
  · subst h1
    go_enter Try.func24, Try.ntmps24
    go_wp2_with fail
    refine wp_region_held_drew (S := (fun W' => W'.heap[w.heap.size]? = some (.cells #[.int .i64 1, .int .i64 pt, .int .i64 ch, .slice q xs.length cp] 43 (0, 0)))) (by kernel_rfl) ?_ (fun hHeld => ?_)
    · exact HBX.out
    refine wpAnyH_take (i := 0) (v := ?_) rfl (by kernel_rfl) (by kernel_rfl) (by kernel_rfl) (fun _ _ _ h => h) (Or.inl ⟨by rfl, ?_⟩) (by assumption) ?_
    rotate_left
    · intro W hSw; (try dsimp only at hSw); have o1 := (bk_cell hSw 1).trans rfl; have o2 := (bk_cell hSw 2).trans rfl; have o3 := (bk_cell hSw 3).trans rfl; (try simp only [List.getElem_toArray, List.getElem_cons_succ, List.getElem_cons_zero]); go_simp; try with_reducible rfl
    try simp only [Act.put, List.setIfInBounds_toArray, List.set_cons_zero, List.set_cons_succ, List.getElem_toArray, List.getElem_cons_succ, List.getElem_cons_zero]
    refine wpAnyH_take (i := 1) (v := ?_) rfl (by kernel_rfl) (by kernel_rfl) (by kernel_rfl) (fun _ _ _ h => h) (Or.inl ⟨by rfl, ?_⟩) (by assumption) ?_
    rotate_left
    · intro W hSw; (try dsimp only at hSw); have o1 := (bk_cell hSw 1).trans rfl; have o2 := (bk_cell hSw 2).trans rfl; have o3 := (bk_cell hSw 3).trans rfl; (try simp only [List.getElem_toArray, List.getElem_cons_succ, List.getElem_cons_zero]); go_simp; try with_reducible rfl
    try simp only [Act.put, List.setIfInBounds_toArray, List.set_cons_zero, List.set_cons_succ, List.getElem_toArray, List.getElem_cons_succ, List.getElem_cons_zero]
    refine wpAnyH_take (i := 2) (v := ?_) rfl (by kernel_rfl) (by kernel_rfl) (by kernel_rfl) (fun _ _ _ h => h) (Or.inl ⟨by rfl, ?_⟩) (by assumption) ?_
    rotate_left
    · intro W hSw; (try dsimp only at hSw); have o1 := (bk_cell hSw 1).trans rfl; have o2 := (bk_cell hSw 2).trans rfl; have o3 := (bk_cell hSw 3).trans rfl; (try simp only [List.getElem_toArray, List.getElem_cons_succ, List.getElem_cons_zero]); go_simp; try with_reducible rfl
    try simp only [Act.put, List.setIfInBounds_toArray, List.set_cons_zero, List.set_cons_succ, List.getElem_toArray, List.getElem_cons_succ, List.getElem_cons_zero]
    refine wpAnyH_take (i := 3) (v := ?_) rfl (by kernel_rfl) (by kernel_rfl) (by kernel_rfl) (fun _ _ _ h => h) (Or.inl ⟨by rfl, ?_⟩) (by assumption) ?_
    rotate_left
    · intro W hSw; (try dsimp only at hSw); have o1 := (bk_cell hSw 1).trans rfl; have o2 := (bk_cell hSw 2).trans rfl; have o3 := (bk_cell hSw 3).trans rfl; (try simp only [List.getElem_toArray, List.getElem_cons_succ, List.getElem_cons_zero]); go_simp; try with_reducible rfl
    try simp only [Act.put, List.setIfInBounds_toArray, List.set_cons_zero, List.set_cons_succ, List.getElem_toArray, List.getElem_cons_succ, List.getElem_cons_zero]
    refine wpAnyH_take (i := 4) (v := ?_) rfl (by kernel_rfl) (by kernel_rfl) (by kernel_rfl) (fun _ _ _ h => h) (Or.inl ⟨by rfl, ?_⟩) (by assumption) ?_
    rotate_left
    · intro W hSw; (try dsimp only at hSw); have o1 := (bk_cell hSw 1).trans rfl; have o2 := (bk_cell hSw 2).trans rfl; have o3 := (bk_cell hSw 3).trans rfl; (try simp only [List.getElem_toArray, List.getElem_cons_succ, List.getElem_cons_zero]); go_simp; try with_reducible rfl
    try simp only [Act.put, List.setIfInBounds_toArray, List.set_cons_zero, List.set_cons_succ, List.getElem_toArray, List.getElem_cons_succ, List.getElem_cons_zero]
    refine wpAnyH_take (i := 5) (v := ?_) rfl (by kernel_rfl) (by kernel_rfl) (by kernel_rfl) (fun _ _ _ h => h) (Or.inl ⟨by rfl, ?_⟩) (by assumption) ?_
    rotate_left
    · intro W hSw; (try dsimp only at hSw); have o1 := (bk_cell hSw 1).trans rfl; have o2 := (bk_cell hSw 2).trans rfl; have o3 := (bk_cell hSw 3).trans rfl; (try simp only [List.getElem_toArray, List.getElem_cons_succ, List.getElem_cons_zero]); go_simp; try with_reducible rfl
    try simp only [Act.put, List.setIfInBounds_toArray, List.set_cons_zero, List.set_cons_succ, List.getElem_toArray, List.getElem_cons_succ, List.getElem_cons_zero]
    refine wpAnyH_take (i := 6) (v := ?_) rfl (by kernel_rfl) (by kernel_rfl) (by kernel_rfl) (fun _ _ _ h => h) (Or.inl ⟨by rfl, ?_⟩) (by assumption) ?_
    rotate_left
    · intro W hSw; (try dsimp only at hSw); have o1 := (bk_cell hSw 1).trans rfl; have o2 := (bk_cell hSw 2).trans rfl; have o3 := (bk_cell hSw 3).trans rfl; (try simp only [List.getElem_toArray, List.getElem_cons_succ, List.getElem_cons_zero]); go_simp; try with_reducible rfl
    try simp only [Act.put, List.setIfInBounds_toArray, List.set_cons_zero, List.set_cons_succ, List.getElem_toArray, List.getElem_cons_succ, List.getElem_cons_zero]
    refine wpAnyH_take (i := 8) (v := ?_) rfl (by kernel_rfl) (by kernel_rfl) (by kernel_rfl) (fun _ _ _ h => h) (Or.inl ⟨by rfl, ?_⟩) (by assumption) ?_
    rotate_left
    · intro W hSw; (try dsimp only at hSw); have o1 := (bk_cell hSw 1).trans rfl; have o2 := (bk_cell hSw 2).trans rfl; have o3 := (bk_cell hSw 3).trans rfl; (try simp only [List.getElem_toArray, List.getElem_cons_succ, List.getElem_cons_zero]); go_simp; try with_reducible rfl
    try simp only [Act.put, List.setIfInBounds_toArray, List.set_cons_zero, List.set_cons_succ, List.getElem_toArray, List.getElem_cons_succ, List.getElem_cons_zero]
    refine wpAnyH_take (i := 9) (v := ?_) rfl (by kernel_rfl) (by kernel_rfl) (by kernel_rfl) (fun _ _ _ h => h) (Or.inl ⟨by rfl, ?_⟩) (by assumption) ?_
    rotate_left
    · intro W hSw; (try dsimp only at hSw); have o1 := (bk_cell hSw 1).trans rfl; have o2 := (bk_cell hSw 2).trans rfl; have o3 := (bk_cell hSw 3).trans rfl; (try simp only [List.getElem_toArray, List.getElem_cons_succ, List.getElem_cons_zero]); go_simp; try with_reducible rfl
    try simp only [Act.put, List.setIfInBounds_toArray, List.set_cons_zero, List.set_cons_succ, List.getElem_toArray, List.getElem_cons_succ, List.getElem_cons_zero]
    refine wpAnyH_take (i := 10) (v := ?_) rfl (by kernel_rfl) (by kernel_rfl) (by kernel_rfl) (fun _ _ _ h => h) (Or.inl ⟨by rfl, ?_⟩) (by assumption) ?_
    rotate_left
    · intro W hSw; (try dsimp only at hSw); have o1 := (bk_cell hSw 1).trans rfl; have o2 := (bk_cell hSw 2).trans rfl; have o3 := (bk_cell hSw 3).trans rfl; (try simp only [List.getElem_toArray, List.getElem_cons_succ, List.getElem_cons_zero]); go_simp; try with_reducible rfl
    try simp only [Act.put, List.setIfInBounds_toArray, List.set_cons_zero, List.set_cons_succ, List.getElem_toArray, List.getElem_cons_succ, List.getElem_cons_zero]
    refine wpAnyH_take (i := 11) (v := ?_) rfl (by kernel_rfl) (by kernel_rfl) (by kernel_rfl) (fun _ _ _ h => h) (Or.inl ⟨by rfl, ?_⟩) (by assumption) ?_
    rotate_left
    · intro W hSw; (try dsimp only at hSw); have o1 := (bk_cell hSw 1).trans rfl; have o2 := (bk_cell hSw 2).trans rfl; have o3 := (bk_cell hSw 3).trans rfl; (try simp only [List.getElem_toArray, List.getElem_cons_succ, List.getElem_cons_zero]); go_simp; try with_reducible rfl
    try simp only [Act.put, List.setIfInBounds_toArray, List.set_cons_zero, List.set_cons_succ, List.getElem_toArray, List.getElem_cons_succ, List.getElem_cons_zero]
    refine wpAnyH_take (i := 12) (v := ?_) rfl (by kernel_rfl) (by kernel_rfl) (by kernel_rfl) (fun _ _ _ h => h) (Or.inl ⟨by rfl, ?_⟩) (by assumption) ?_
    rotate_left
    · intro W hSw; (try dsimp only at hSw); have o1 := (bk_cell hSw 1).trans rfl; have o2 := (bk_cell hSw 2).trans rfl; have o3 := (bk_cell hSw 3).trans rfl; (try simp only [List.getElem_toArray, List.getElem_cons_succ, List.getElem_cons_zero]); go_simp; try with_reducible rfl
    try simp only [Act.put, List.setIfInBounds_toArray, List.set_cons_zero, List.set_cons_succ, List.getElem_toArray, List.getElem_cons_succ, List.getElem_cons_zero]
    refine wpAnyH_take (i := 13) (v := ?_) rfl (by kernel_rfl) (by kernel_rfl) (by kernel_rfl) (fun _ _ _ h => h) (Or.inl ⟨by rfl, ?_⟩) (by assumption) ?_
    rotate_left
    · intro W hSw; (try dsimp only at hSw); have o1 := (bk_cell hSw 1).trans rfl; have o2 := (bk_cell hSw 2).trans rfl; have o3 := (bk_cell hSw 3).trans rfl; (try simp only [List.getElem_toArray, List.getElem_cons_succ, List.getElem_cons_zero]); go_simp; try with_reducible rfl
    try simp only [Act.put, List.setIfInBounds_toArray, List.set_cons_zero, List.set_cons_succ, List.getElem_toArray, List.getElem_cons_succ, List.getElem_cons_zero]
    refine wpAnyH_take (i := 14) (v := ?_) rfl (by kernel_rfl) (by kernel_rfl) (by kernel_rfl) (fun _ _ _ h => h) (Or.inl ⟨by rfl, ?_⟩) (by assumption) ?_
    rotate_left
    · intro W hSw; (try dsimp only at hSw); have o1 := (bk_cell hSw 1).trans rfl; have o2 := (bk_cell hSw 2).trans rfl; have o3 := (bk_cell hSw 3).trans rfl; (try simp only [List.getElem_toArray, List.getElem_cons_succ, List.getElem_cons_zero]); go_simp; try with_reducible rfl
    try simp only [Act.put, List.setIfInBounds_toArray, List.set_cons_zero, List.set_cons_succ, List.getElem_toArray, List.getElem_cons_succ, List.getElem_cons_zero]
    refine wpAnyH_ready (rs := [7]) (by kernel_rfl) (by simp) ?_
    refine AllReadyH.cons rfl (fun K hK => ?_) AllReadyH.nil
    try simp only [List.getElem_toArray, List.getElem_cons_succ, List.getElem_cons_zero]
    go_simp
    go_at_call 14
    refine (sys_send2 pt ch q xs cp (HP.out.s.below (bdrew HBA.out)) (HS.out.below (bdrew HBA.out)) HW.out HQ.out).mono ?_
    rintro e w3 ⟨rfl, hs3, hb3, hk3⟩
    have hob3 := hk3.blk (show ((w.alloc (.cells #[.int .i64 1, .int .i64 pt, .int .i64 ch, .slice q xs.length cp] 43)).drew).heap[w.heap.size]? = some (.cells #[.int .i64 1, .int .i64 pt, .int .i64 ch, .slice q xs.length cp] 43 (0, 0)) from HBX.out) HFX.out.1 HFX.out.2
    (try go_wp2_with fail)
    refine hK.out _ _ ?_ (fun hHeld => ?_)
    · exact hob3
    clear hK K
    try simp only [Act.put, List.setIfInBounds_toArray, List.set_cons_zero, List.set_cons_succ, List.getElem_toArray, List.getElem_cons_succ, List.getElem_cons_zero]
    have hx3 := (HP.out.r.below (bdrew HBA.out)).keptX hk3 HBF.out
    have hB3 : Below L w w3 := ((bdrew HBA.out).mono hLw).trans hb3
    have hc3 := sl4_L HP.out.c hB3 HPC.out
    have hm3 := sl_L HS.out hB3 HQ.out
    have HR := Lib.hid (rxsend_any C pC cC t g Lg LL pt ch q xs cp w3 hx3 hc3 hok hm3 HW.out (fun b o e h0 => by have := HQ.out b o e h0; omega))
    refine wpAnyH_ready (rs := [15]) (by kernel_rfl) (by simp) ?_
    refine AllReadyH.cons rfl (fun K hK => ?_) AllReadyH.nil
    try simp only [List.getElem_toArray, List.getElem_cons_succ, List.getElem_cons_zero]
    go_simp
    go_at_call 49
    refine HR.out.mono ?_
    rintro e w4 ⟨rfl, hx4, hk4⟩
    (try go_wp2_with fail)
    refine hK.out _ _ ?_ (fun hHeld => ?_)
    · exact hk4.blk hob3 (by omega)
    clear hK K
    try simp only [Act.put, List.setIfInBounds_toArray, List.set_cons_zero, List.set_cons_succ, List.getElem_toArray, List.getElem_cons_succ, List.getElem_cons_zero]
    refine wpAnyH_take (i := 16) (v := ?_) rfl (by kernel_rfl) (by kernel_rfl) (by kernel_rfl) (fun _ _ _ h => h) (Or.inl ⟨by rfl, ?_⟩) (by assumption) ?_
    rotate_left
    · intro W hSw; (try dsimp only at hSw); (try simp only [List.getElem_toArray, List.getElem_cons_succ, List.getElem_cons_zero]); go_simp; try with_reducible rfl
    try simp only [Act.put, List.setIfInBounds_toArray, List.set_cons_zero, List.set_cons_succ, List.getElem_toArray, List.getElem_cons_succ, List.getElem_cons_zero]
    refine wpAnyH_take (i := 17) (v := ?_) rfl (by kernel_rfl) (by kernel_rfl) (by kernel_rfl) (fun _ _ _ h => h) (Or.inl ⟨by rfl, ?_⟩) (by assumption) ?_
    rotate_left
    · intro W hSw; (try dsimp only at hSw); (try simp only [List.getElem_toArray, List.getElem_cons_succ, List.getElem_cons_zero]); go_simp; try with_reducible rfl
    try simp only [Act.put, List.setIfInBounds_toArray, List.set_cons_zero, List.set_cons_succ, List.getElem_toArray, List.getElem_cons_succ, List.getElem_cons_zero]
    refine wpAnyH_done (by kernel_rfl) ?_ _
    have hs4 := hs3.keptg hk4 (HBF.out.mono hLgg)
    have hb4 : Below L w3 w4 := hk4.below (Below.refl _ _) hLg (Nat.le_trans hLw hB3.size)
    have hB4 := hB3.trans hb4
    have hc4 := sl4_L HP.out.c hB4 HPC.out
    have hkp : KeptP K C.nC g w w4 := ((KeptP.of_below (bdrew HBA.out)).trans (KeptP.of_x hk3)).trans (KeptP.of_g hk4)
    have HF := Lib.hid (show PS L g Lg C K pC cC (t + 1) (sendL C LL pt ch xs) w4 from ⟨hs4, hx4.mono (Nat.le_succ _), hc4⟩)
    have HB := Lib.hid hB4
    have HKP := Lib.hid hkp
    clear hs3 hx3 hc3 hm3 hs4 hx4 hc4 hkp hob3 HR hHeld
    go_wp2
    go_ret
    exact ⟨by simp, ⟨_, HF.out⟩, HB.out, HKP.out⟩
  have x1 : (d == 1) = false := beq_eq_false_iff_ne.2 h1
  by_cases h2 : d = 2
  · subst h2
    obtain ⟨E, hE⟩ : ∃ E, recvE C LL pt ch = E := ⟨_, rfl⟩
    obtain ⟨zs, hzs⟩ : ∃ zs, recvX C LL pt ch = zs := ⟨_, rfl⟩
    have hz8 : zs.length ≤ 8 := by rw [← hzs]; exact recvX_le HP.out.s
    have hc1 := sys_recv2 pt ch (HP.out.s.below HBA.out)
    rw [hE, hzs] at hc1
    have HC1 := Lib.hid hc1
    have HE := Lib.hid hE
    have HZ := Lib.hid hzs
    clear hc1 hE hzs x1
    go_enter Try.func24, Try.ntmps24
    go_wp2_with fail
    refine HC1.out.mono ?_; rintro e w3 ⟨pa, pc, rfl, hl3, hn3, hs3, hb3, hk3⟩
    rw [World.size_alloc] at hn3
    have hob3 := hk3.blk HBX.out HFX.out.1 HFX.out.2
    have o0 : w3.cell? ⟨w.heap.size, 0, none⟩ = some (.int .i64 2) := (bk_cell hob3 0).trans rfl
    have o1 : w3.cell? ⟨w.heap.size, 1, none⟩ = some (.int .i64 pt) := (bk_cell hob3 1).trans rfl
    have o2 : w3.cell? ⟨w.heap.size, 2, none⟩ = some (.int .i64 ch) := (bk_cell hob3 2).trans rfl
    have o3 := bk_lt hob3
    have hx3 := (HP.out.r.below HBA.out).keptX hk3 HBF.out
    have hB3 : Below L w w3 := (HBA.out.mono hLw).trans hb3
    have hc3 := sl4_L HP.out.c hB3 HPC.out
    have hrr := rxrecv_any C pC cC t g Lg LL pt ch w3 hx3 hc3 hok ht
    rw [HE.out, HZ.out] at hrr
    have HR := Lib.hid hrr
    have HS3 := Lib.hid hs3
    have HL3 := Lib.hid hl3
    have HN3 := Lib.hid hn3
    have HB3 := Lib.hid hB3
    have HK3 := Lib.hid hk3
    clear hrr hx3 hc3 hB3 hs3 hl3 hn3 hk3 hb3 hob3
    go_wp2_with fail
    refine HR.out.mono ?_; rintro e w4 ⟨pb, pd, rfl, hl4, hx4, hk4⟩
    have hs4 := HS3.out.keptg hk4 (HBF.out.mono hLgg)
    have hb4 : Below L w3 w4 := hk4.below (Below.refl _ _) hLg (Nat.le_trans hLw HB3.out.size)
    have HB4 := Lib.hid (HB3.out.trans hb4)
    have HC4 := Lib.hid (sl4_L HP.out.c (HB3.out.trans hb4) HPC.out)
    have HKP4 := Lib.hid (show KeptP K C.nC g w w4 from ((KeptP.of_below HBA.out).trans (KeptP.of_x HK3.out)).trans (KeptP.of_g hk4))
    have HS4 := Lib.hid hs4
    have HX4 := Lib.hid hx4
    have HLB := Lib.hid hl4
    have HLA := Lib.hid (show Sl w4 .u32 pa zs.length (fun i => zs.getD i 0) from by
      rcases HL3.out with h0 | ⟨b, o, e, hc⟩
      · exact .inl h0
      · have := (HN3.out b o e).1
        exact .inr ⟨b, o, e, fun i hi => hk4.cell (hc i hi) (by omega)⟩)
    clear hs4 hb4 hx4 hl4 hk4 o0 o1 o2 HR HL3 HN3 HS3
    have xE : (E == E) = true := by simp
    go_wp2_with fail
    refine (same_yes pa pb pc pd zs _ HLA.out HLB.out (by omega)).mono ?_; rintro e w5 ⟨rfl, b5⟩
    have HF := Lib.hid (show PS L g Lg C K pC cC (t + 1) (recvL C LL pt ch) w5 from ⟨HS4.out.below b5, HX4.out.below b5, HC4.out.below b5⟩)
    have HB5 := Lib.hid (HB4.out.trans (b5.mono (Nat.le_trans hLw HB4.out.size)))
    have HK5 := Lib.hid (HKP4.out.trans (KeptP.of_below b5))
    clear b5
    go_wp2
    go_ret
    exact ⟨by simp, ⟨_, HF.out⟩, HB5.out, HK5.out⟩
  have x2 : (d == 2) = false := beq_eq_false_iff_ne.2 h2
  by_cases h3 : d = 3
  · subst h3
    obtain ⟨_, rp, rb, rcap, rq, rcp, rout, rV, hd, hy⟩ := HP.out.r
    obtain ⟨E, hE⟩ : ∃ E, recvE C LL pt ch = E := ⟨_, rfl⟩
    obtain ⟨m, hmm⟩ : ∃ m, (recvX C LL pt ch).length = m := ⟨_, rfl⟩
    have hc1 := sys_next pt ch (HP.out.s.below HBA.out)
    rw [hE, hmm] at hc1
    have HC1 := Lib.hid hc1
    have HE := Lib.hid hE
    have HZ := Lib.hid hmm
    have HD := Lib.hid hd
    have HY := Lib.hid hy
    clear hc1 hE hmm hd hy x1 x2
    go_enter Try.func24, Try.ntmps24
    go_wp2_with fail
    refine HC1.out.mono ?_; rintro e w3 ⟨rfl, hb3⟩
    have hB3 := bstep HBA.out hb3
    have hob3 := bk_below HBX.out hb3
    have hgd3 := bk_below HD.out hB3
    have o0 : w3.cell? ⟨w.heap.size, 0, none⟩ = some (.int .i64 3) := (bk_cell hob3 0).trans rfl
    have hrr := rnext_any (w := w3.drew) pC cC pt ch (HY.out.below (bdrew hB3)) (HP.out.c.below (bdrew hB3)) hn16
    rw [HE.out, HZ.out] at hrr
    have HR := Lib.hid hrr
    have HOB := Lib.hid hob3
    have HGD := Lib.hid hgd3
    have HB3 := Lib.hid hB3
    clear hrr hb3 hob3 hgd3 hB3
    go_wp2_with fail
    refine wp_region_held_drew (S := (fun W' => W'.heap[w.heap.size]? = some (.cells #[.int .i64 3, .int .i64 pt, .int .i64 ch, .slice q xs.length cp] 43 (0, 0)) ∧ W'.heap[g]? = some (.cells #[.slice pC C.nC cC, .slice rp C.nC rcap] 61 (0, 0)))) (by kernel_rfl) ?_ (fun hHeld => ?_)
    · exact ⟨HOB.out, HGD.out⟩
    refine wpAnyH_take (i := 0) (v := ?_) rfl (by kernel_rfl) (by kernel_rfl) (by kernel_rfl) (fun _ _ _ h => h) (Or.inl ⟨by rfl, ?_⟩) (by assumption) ?_
    rotate_left
    · intro W hSw; (try dsimp only at hSw); have o1 := (bk_cell hSw.1 1).trans rfl; have o2 := (bk_cell hSw.1 2).trans rfl; have g0 := (bk_cell hSw.2 0).trans rfl; have g1 := (bk_cell hSw.2 1).trans rfl; (try simp only [List.getElem_toArray, List.getElem_cons_succ, List.getElem_cons_zero]); go_simp; try with_reducible rfl
    try simp only [Act.put, List.setIfInBounds_toArray, List.set_cons_zero, List.set_cons_succ, List.getElem_toArray, List.getElem_cons_succ, List.getElem_cons_zero]
    refine wpAnyH_take (i := 1) (v := ?_) rfl (by kernel_rfl) (by kernel_rfl) (by kernel_rfl) (fun _ _ _ h => h) (Or.inl ⟨by rfl, ?_⟩) (by assumption) ?_
    rotate_left
    · intro W hSw; (try dsimp only at hSw); have o1 := (bk_cell hSw.1 1).trans rfl; have o2 := (bk_cell hSw.1 2).trans rfl; have g0 := (bk_cell hSw.2 0).trans rfl; have g1 := (bk_cell hSw.2 1).trans rfl; (try simp only [List.getElem_toArray, List.getElem_cons_succ, List.getElem_cons_zero]); go_simp; try with_reducible rfl
    try simp only [Act.put, List.setIfInBounds_toArray, List.set_cons_zero, List.set_cons_succ, List.getElem_toArray, List.getElem_cons_succ, List.getElem_cons_zero]
    refine wpAnyH_take (i := 2) (v := ?_) rfl (by kernel_rfl) (by kernel_rfl) (by kernel_rfl) (fun _ _ _ h => h) (Or.inl ⟨by rfl, ?_⟩) (by assumption) ?_
    rotate_left
    · intro W hSw; (try dsimp only at hSw); have o1 := (bk_cell hSw.1 1).trans rfl; have o2 := (bk_cell hSw.1 2).trans rfl; have g0 := (bk_cell hSw.2 0).trans rfl; have g1 := (bk_cell hSw.2 1).trans rfl; (try simp only [List.getElem_toArray, List.getElem_cons_succ, List.getElem_cons_zero]); go_simp; try with_reducible rfl
    try simp only [Act.put, List.setIfInBounds_toArray, List.set_cons_zero, List.set_cons_succ, List.getElem_toArray, List.getElem_cons_succ, List.getElem_cons_zero]
    refine wpAnyH_take (i := 3) (v := ?_) rfl (by kernel_rfl) (by kernel_rfl) (by kernel_rfl) (fun _ _ _ h => h) (Or.inl ⟨by rfl, ?_⟩) (by assumption) ?_
    rotate_left
    · intro W hSw; (try dsimp only at hSw); have o1 := (bk_cell hSw.1 1).trans rfl; have o2 := (bk_cell hSw.1 2).trans rfl; have g0 := (bk_cell hSw.2 0).trans rfl; have g1 := (bk_cell hSw.2 1).trans rfl; (try simp only [List.getElem_toArray, List.getElem_cons_succ, List.getElem_cons_zero]); go_simp; try with_reducible rfl
    try simp only [Act.put, List.setIfInBounds_toArray, List.set_cons_zero, List.set_cons_succ, List.getElem_toArray, List.getElem_cons_succ, List.getElem_cons_zero]
    refine wpAnyH_take (i := 4) (v := ?_) rfl (by kernel_rfl) (by kernel_rfl) (by kernel_rfl) (fun _ _ _ h => h) (Or.inl ⟨by rfl, ?_⟩) (by assumption) ?_
    rotate_left
    · intro W hSw; (try dsimp only at hSw); have o1 := (bk_cell hSw.1 1).trans rfl; have o2 := (bk_cell hSw.1 2).trans rfl; have g0 := (bk_cell hSw.2 0).trans rfl; have g1 := (bk_cell hSw.2 1).trans rfl; (try simp only [List.getElem_toArray, List.getElem_cons_succ, List.getElem_cons_zero]); go_simp; try with_reducible rfl
    try simp only [Act.put, List.setIfInBounds_toArray, List.set_cons_zero, List.set_cons_succ, List.getElem_toArray, List.getElem_cons_succ, List.getElem_cons_zero]
    refine wpAnyH_take (i := 5) (v := ?_) rfl (by kernel_rfl) (by kernel_rfl) (by kernel_rfl) (fun _ _ _ h => h) (Or.inl ⟨by rfl, ?_⟩) (by assumption) ?_
    rotate_left
    · intro W hSw; (try dsimp only at hSw); have o1 := (bk_cell hSw.1 1).trans rfl; have o2 := (bk_cell hSw.1 2).trans rfl; have g0 := (bk_cell hSw.2 0).trans rfl; have g1 := (bk_cell hSw.2 1).trans rfl; (try simp only [List.getElem_toArray, List.getElem_cons_succ, List.getElem_cons_zero]); go_simp; try with_reducible rfl
    try simp only [Act.put, List.setIfInBounds_toArray, List.set_cons_zero, List.set_cons_succ, List.getElem_toArray, List.getElem_cons_succ, List.getElem_cons_zero]
    refine wpAnyH_take (i := 6) (v := ?_) rfl (by kernel_rfl) (by kernel_rfl) (by kernel_rfl) (fun _ _ _ h => h) (Or.inl ⟨by rfl, ?_⟩) (by assumption) ?_
    rotate_left
    · intro W hSw; (try dsimp only at hSw); have o1 := (bk_cell hSw.1 1).trans rfl; have o2 := (bk_cell hSw.1 2).trans rfl; have g0 := (bk_cell hSw.2 0).trans rfl; have g1 := (bk_cell hSw.2 1).trans rfl; (try simp only [List.getElem_toArray, List.getElem_cons_succ, List.getElem_cons_zero]); go_simp; try with_reducible rfl
    try simp only [Act.put, List.setIfInBounds_toArray, List.set_cons_zero, List.set_cons_succ, List.getElem_toArray, List.getElem_cons_succ, List.getElem_cons_zero]
    refine wpAnyH_ready (rs := [7]) (by kernel_rfl) (by simp) ?_
    refine AllReadyH.cons rfl (fun K hK => ?_) AllReadyH.nil
    try simp only [List.getElem_toArray, List.getElem_cons_succ, List.getElem_cons_zero]
    go_simp
    go_at_call 51
    refine HR.out.mono ?_
    rintro e w4 ⟨rfl, hb4⟩
    (try go_wp2_with fail)
    refine hK.out _ _ ?_ (fun hHeld => ?_)
    · exact ⟨bk_below (w := w3.drew) HOB.out hb4, bk_below (w := w3.drew) HGD.out hb4⟩
    clear hK K
    try simp only [Act.put, List.setIfInBounds_toArray, List.set_cons_zero, List.set_cons_succ, List.getElem_toArray, List.getElem_cons_succ, List.getElem_cons_zero]
    refine wpAnyH_take (i := 8) (v := ?_) rfl (by kernel_rfl) (by kernel_rfl) (by kernel_rfl) (fun _ _ _ h => h) (Or.inl ⟨by rfl, ?_⟩) (by assumption) ?_
    rotate_left
    · intro W hSw; (try dsimp only at hSw); (try simp only [List.getElem_toArray, List.getElem_cons_succ, List.getElem_cons_zero]); go_simp; try with_reducible rfl
    try simp only [Act.put, List.setIfInBounds_toArray, List.set_cons_zero, List.set_cons_succ, List.getElem_toArray, List.getElem_cons_succ, List.getElem_cons_zero]
    refine wpAnyH_take (i := 9) (v := ?_) rfl (by kernel_rfl) (by kernel_rfl) (by kernel_rfl) (fun _ _ _ h => h) (Or.inl ⟨by rfl, ?_⟩) (by assumption) ?_
    rotate_left
    · intro W hSw; (try dsimp only at hSw); (try simp only [List.getElem_toArray, List.getElem_cons_succ, List.getElem_cons_zero]); go_simp; try with_reducible rfl
    try simp only [Act.put, List.setIfInBounds_toArray, List.set_cons_zero, List.set_cons_succ, List.getElem_toArray, List.getElem_cons_succ, List.getElem_cons_zero]
    refine wpAnyH_take (i := 10) (v := ?_) rfl (by kernel_rfl) (by kernel_rfl) (by kernel_rfl) (fun _ _ _ h => h) (Or.inl ⟨by rfl, ?_⟩) (by assumption) ?_
    rotate_left
    · intro W hSw; (try dsimp only at hSw); (try simp only [List.getElem_toArray, List.getElem_cons_succ, List.getElem_cons_zero]); go_simp; try with_reducible rfl
    try simp only [Act.put, List.setIfInBounds_toArray, List.set_cons_zero, List.set_cons_succ, List.getElem_toArray, List.getElem_cons_succ, List.getElem_cons_zero]
    refine wpAnyH_take (i := 11) (v := ?_) rfl (by kernel_rfl) (by kernel_rfl) (by kernel_rfl) (fun _ _ _ h => h) (Or.inl ⟨by rfl, ?_⟩) (by assumption) ?_
    rotate_left
    · intro W hSw; (try dsimp only at hSw); (try simp only [List.getElem_toArray, List.getElem_cons_succ, List.getElem_cons_zero]); go_simp; try with_reducible rfl
    try simp only [Act.put, List.setIfInBounds_toArray, List.set_cons_zero, List.set_cons_succ, List.getElem_toArray, List.getElem_cons_succ, List.getElem_cons_zero]
    refine wpAnyH_take (i := 12) (v := ?_) rfl (by kernel_rfl) (by kernel_rfl) (by kernel_rfl) (fun _ _ _ h => h) (Or.inl ⟨by rfl, ?_⟩) (by assumption) ?_
    rotate_left
    · intro W hSw; (try dsimp only at hSw); (try simp only [List.getElem_toArray, List.getElem_cons_succ, List.getElem_cons_zero]); go_simp; try with_reducible rfl
    try simp only [Act.put, List.setIfInBounds_toArray, List.set_cons_zero, List.set_cons_succ, List.getElem_toArray, List.getElem_cons_succ, List.getElem_cons_zero]
    refine wpAnyH_done (by kernel_rfl) ?_ _
    have hB4 := bstep (bdrew HB3.out) hb4
    have HF := Lib.hid (show PS L g Lg C K pC cC (t + 1) LL w4 from (HP.out.below hB4).mono (Nat.le_succ _))
    have HB := Lib.hid (hB4.mono hLw)
    have HKP := Lib.hid (KeptP.of_below (K := K) (n := C.nC) (g := g) hB4)
    have xE : (E == E) = true := by simp
    have xM : ((m : Int) == m) = true := by simp
    clear hb4 hB4 hHeld o0
    go_wp2
    go_ret
    exact ⟨by simp, ⟨_, HF.out⟩, HB.out, HKP.out⟩
  have x3 : (d == 3) = false := beq_eq_false_iff_ne.2 h3
  go_enter Try.func24, Try.ntmps24
  go_wp2
  go_ret
  exact ⟨rfl, ⟨_, (HP.out.below HBA.out).mono (Nat.le_succ _)⟩, HBA.out.mono hLw, KeptP.of_below HBA.out⟩
end Go.Proofs.Ytofkgceenppdbaa
