/- The law SchedPlays. -/
import Derived.Test.YtlmgkdilidgkgaaTwo
import Derived.Deep.RegionHeld3
namespace Go.Proofs.Ytlmgkdilidgkgaa
open Go.RowKit
set_option linter.unusedVariables false
set_option linter.unusedSimpArgs false
def Long (C : Cfg) : Prop := 100 < C.nP ∨ 100 < C.nW ∨ 100 < C.nC
theorem not_long {C : Cfg} (h : ¬ Long C) : Big C := by unfold Long at h; unfold Big; omega
theorem long_yes (C : Cfg) (ly : Lay) (w : World) (h : Long C) :
    Calls Try.prog 7 #[.agg (cfgV C ly)] w fun e w' => e = .returned (.bool true) ∧ Below w.heap.size w w' := by
  obtain ⟨pP, cP, pW, cW, pC, cC⟩ := ly
  unfold cfgV Long at *
  simp only at *
  have h' : (100 : Int) < C.nP ∨ (¬ (100 : Int) < C.nP ∧ (100 : Int) < C.nW) ∨ (¬ (100 : Int) < C.nP ∧ ¬ (100 : Int) < C.nW ∧ (100 : Int) < C.nC) := by omega
  clear h
  rcases h' with k1 | ⟨k1, k2⟩ | ⟨k1, k2, k3⟩
  all_goals
    go_enter Try.func7, Try.ntmps7
    go_wp2
    go_ret
    exact ⟨by simp [*], by go_grown⟩
theorem long_no (C : Cfg) (ly : Lay) (w : World) (h : ¬ Long C) :
    Calls Try.prog 7 #[.agg (cfgV C ly)] w fun e w' => e = .returned (.bool false) ∧ Below w.heap.size w w' := by
  obtain ⟨pP, cP, pW, cW, pC, cC⟩ := ly
  unfold cfgV Long at *
  simp only at *
  have k1 : ¬ (100 : Int) < C.nP := by omega
  have k2 : ¬ (100 : Int) < C.nW := by omega
  have k3 : ¬ (100 : Int) < C.nC := by omega
  clear h
  go_enter Try.func7, Try.ntmps7
  go_wp2
  go_ret
  exact ⟨by first | (simp; done) | (simp; omega), by go_grown⟩
/-- what is known of a configuration that lies in a variable of the law's -/
def InV (C : Cfg) (ly : Lay) (n : Nat) (w V : World) : Prop := V.heap[n]? = some (.cells (cfgV C ly) 26 (0, 0)) ∧ IsC V C ly ∧ Below w.heap.size w V
theorem InV.below {C : Cfg} {ly : Lay} {n : Nat} {w V V' : World} (h : InV C ly n w V) (hb : Below V.heap.size V V') : InV C ly n w V' := ⟨bk_below h.1 hb, h.2.1.below hb, bstep h.2.2 hb⟩
theorem InV.cells {C : Cfg} {pP pW pC : Option Addr} {cP cW cC n : Nat} {w V : World} (h : InV C ⟨pP, cP, pW, cW, pC, cC⟩ n w V) : V.cell? ⟨n, 0, none⟩ = some (.slice pP C.nP cP) ∧ V.cell? ⟨n, 1, none⟩ = some (.slice pW C.nW cW) ∧ V.cell? ⟨n, 2, none⟩ = some (.slice pC C.nC cC) :=
  ⟨(bk_cell h.1 0).trans rfl, (bk_cell h.1 1).trans rfl, (bk_cell h.1 2).trans rfl⟩
theorem ckE_bne {C : Cfg} (h : ¬ CkOk C) : (ckE C != 0) = true := by
  have := ckE_ne h
  simp only [bne, this]
  rfl
/-- a row that came in, up to blocks that are kept -/
theorem Sl2.upto {w w' : World} {p : Option Addr} {n N : Nat} {X Y : Nat → Int} (h : Sl2 w p n X Y) (hb : ∀ b, b < w.heap.size → b ≠ N → w'.heap[b]? = w.heap[b]?) (hp : ∀ b o, p = some ⟨b, o, none⟩ → b ≠ N) : Sl2 w' p n X Y := by
  rcases h with h | ⟨b, o, e, h⟩
  · exact .inl h
  · have hne := hp b o e
    refine .inr ⟨b, o, e, fun i hi => ⟨?_, ?_⟩⟩
    · have h1 := (h i hi).1
      exact (World.cell?_of_block (w := w) (w' := w') (a := ⟨b, o + i * 2, none⟩) (hb b (block_lt_of_cell h1) hne)).trans h1
    · have h1 := (h i hi).2
      exact (World.cell?_of_block (w := w) (w' := w') (a := ⟨b, o + i * 2 + 1, none⟩) (hb b (block_lt_of_cell h1) hne)).trans h1
/-- a tick of a schedule of the call's own leaves the configuration -/
theorem InV.kept {C : Cfg} {ly : Lay} {n g : Nat} {w V V' : World} (hI : IsC w C ly) (h : InV C ly n w V) (hk : Kept g V V') (hng : n ≠ g) (hg : w.heap.size ≤ g) : InV C ly n w V' := by
  have hb : Below w.heap.size w V' := Kept.below h.2.2 hk hg h.2.2.size
  exact ⟨hk.blk h.1 hng, hI.below hb, hb⟩
theorem row_get {C : Cfg} (h : NumOk C) {x : Nat} (hx : x < majN C) : (rowL C)[x]? = some (winAt C x) := by
  unfold winAt
  rw [List.getD_eq_getElem?_getD, List.getElem?_eq_getElem (by exact hx)]
  rfl
/-- the same window's turn, so many ticks in a row -/
theorem left_run {C : Cfg} (h : NumOk C) {x : Nat} (hx : x < majN C) : ∃ L : Nat, (L : Int) = sumF C.wt (winAt C x + 1) - x ∧ 1 ≤ L ∧ x + L ≤ majN C ∧ (∀ n, 1 ≤ n → n < L → winAt C (x + n) = winAt C x) ∧ (x + L < majN C → winAt C (x + L) ≠ winAt C x) := by
  have hm := majN_eq h
  have hs := winAt_spec h.ticks (x := x) (by show _ < majT C; omega)
  have hmono := sumT_mono h.ticks (a := winAt C x + 1) (b := C.nW) (by omega) (Nat.le_refl _)
  refine ⟨(sumF C.wt (winAt C x + 1) - x).toNat, by omega, by omega, by unfold majT at hm; omega, fun n h1 h2 => ?_, fun hl e => ?_⟩
  · exact winAt_of h.ticks hs.1 (by push_cast; omega) (by push_cast; omega)
  · have hs2 := winAt_spec h.ticks (x := x + (sumF C.wt (winAt C x + 1) - x).toNat) (by show _ < majT C; push_cast at hm ⊢; omega)
    rw [e] at hs2
    have := hs2.2.2
    push_cast at this
    omega
set_option maxHeartbeats 4000000 in
theorem rleft_any (C : Cfg) (ly : Lay) (t : Nat) (w : World) (h : IsC w C ly) (hok : NumOk C) (ht : t ≤ 1000000) :
    Calls Try.prog 16 #[.agg (cfgV C ly), .int .u64 t] w fun e w' => e = .returned (.int .i64 (C.wt (stA C t) - stG C t)) ∧ Below w.heap.size w w' := by
  have hm := majN_eq hok
  have hmj := hok.maj
  have hx : t % majN C < majN C := Nat.mod_lt _ (by omega)
  obtain ⟨L, hL, hL1, hLm, hLn, hLe⟩ := left_run hok hx
  have hres : C.wt (stA C t) - stG C t = (L : Int) := by
    have he : sumF C.wt (stA C t + 1) = sumF C.wt (stA C t) + C.wt (stA C t) := rfl
    have hG : stG C t = ((t % majN C : Nat) : Int) - sumF C.wt (stA C t) := rfl
    have hA : stA C t = winAt C (t % majN C) := rfl
    rw [← hA] at hL
    omega
  rw [hres]
  have hrow := fun (W : World) (h : IsC W C ly) => row_any C ly W h hok
  have hget := fun (x : Nat) (hx : x < majN C) => row_get hok hx
  have HR := Lib.hid hrow
  have HI := Lib.hid h
  have HLN := Lib.hid (show (ints (rowL C)).length = majN C from ints_length _)
  have hgi : ∀ i, (ints (rowL C)).getD i 0 = ((winAt C i : Nat) : Int) := fun i => ints_getD _ i
  have HGI := Lib.hid hgi
  obtain ⟨x, hxe⟩ : ∃ x, t % majN C = x := ⟨_, rfl⟩
  have hmod : (t : Int) % (majN C : Int) = (x : Int) := by rw [← hxe]; push_cast; rfl
  rw [hxe] at hx hL hLm hLn hLe
  generalize majN C = m at *
  have hm8 : m ≤ 8160 := by omega
  have hm1 : 1 ≤ m := by omega
  have HLn := Lib.hid hLn
  have HLe := Lib.hid hLe
  have s0 : IntKind.u64.wrap (m : Int) = m := by rw [IntKind.wrap_u64]; omega
  have s1 : ((m : Int) == 0) = false := beq_eq_false_iff_ne.2 (by omega)
  have s4 : (t : Int).tmod (m : Int) = (x : Int) := by rw [Int.tmod_eq_emod_of_nonneg (by omega)]; exact hmod
  have s5 : IntKind.i64.wrap (x : Int) = x := IntWalk.i64_in _ (by omega)
  have HMOD := Lib.hid hmod
  clear hm hmj hL hLn hLe hres hrow hget hgi h hxe hok
  obtain ⟨pP, cP, pW, cW, pC, cC⟩ := ly
  unfold cfgV at *
  simp only at *
  go_enter Try.func16, Try.ntmps16
  go_wp2_with fail
  refine (HR.out _ (by exact HI.out.below (by go_grown))).mono ?_; rintro e w1 ⟨v, rfl, ho1, hb1⟩
  obtain ⟨p1, c1, rfl, hs1, _⟩ := own_sl ho1
  rw [HLN.out] at hs1 ⊢
  have HB1 := Lib.hid (bstep (a := w) (by go_grown) hb1)
  rcases hs1 with h0 | ⟨b, o, rfl, hc⟩
  · omega
  have hc2 : ∀ i, i < m → w1.cell? ⟨b, o + i, none⟩ = some (.int .i64 ((winAt C i : Nat) : Int)) := fun i hi => by
    have := hc i hi
    simp only [HGI.out] at this
    exact this
  have HC := Lib.hid hc2
  clear ho1 hb1 hc hc2
  go_wp2_with fail
  go_loopw [7] (fun nv W' => ∃ k : Nat, 1 ≤ k ∧ k ≤ L ∧ nv = .int .i64 k ∧ Below w1.heap.size w1 W') (fun nv _ => L - (intOf nv).toNat)
  case atStart => exact ⟨1, by omega, hL1, rfl, Below.refl _ _⟩
  case round =>
    obtain ⟨k, hk1, hkL, rfl, hb⟩ := hrel
    have HB := Lib.hid hb
    clear hb
    have q1 : IntKind.i64.wrap ((x : Int) + k) = (x : Int) + k := IntWalk.i64_in _ (by omega)
    have q2 : (0 : Int) ≤ (x : Int) + k := by omega
    have q3 : ((x : Int) + k).toNat = x + k := by omega
    have q4 : (0 : Int) ≤ (x : Int) := by omega
    have q5 : (x : Int) < m := by omega
    by_cases hkl : k < L
    · have y0 := keepc HB.out (HC.out (x + k) (by omega))
      have y1 := keepc HB.out (HC.out x hx)
      rw [HLn.out k hk1 hkl] at y0
      have q6 : (x : Int) + k < m := by omega
      have q7 : decide ((x : Int) + k < m) = true := by simpa using q6
      go_wp2_with fail
      go_quiet (fail)
      go_wp2
      exact ⟨⟨k + 1, by omega, by omega, by go_num, bdrewN HB.out _⟩, by simp [intOf]; omega⟩
    · have hkl2 : k = L := by omega
      subst hkl2
      by_cases hxm : x + k < m
      · have y0 := keepc HB.out (HC.out (x + k) (by omega))
        have y1 := keepc HB.out (HC.out x hx)
        have hne := HLe.out hxm
        generalize winAt C (x + k) = a1 at *
        generalize winAt C x = a2 at *
        have q6 : (x : Int) + k < m := by omega
        have q7 : decide ((x : Int) + k < m) = true := by simpa using q6
        have q8 : ((a1 : Int) == (a2 : Int)) = false := beq_eq_false_iff_ne.2 (by omega)
        go_wp2_with fail
        go_quiet (fail)
        go_wp2
        go_ret
        exact ⟨rfl, bstep HB1.out (bdrewN HB.out _)⟩
      · have q6 : ¬ (x : Int) + k < m := by omega
        have q7 : decide ((x : Int) + k < m) = false := by simpa using q6
        go_wp2_with fail
        go_quiet (fail)
        go_wp2
        go_ret
        exact ⟨rfl, bstep HB1.out (bdrewN HB.out _)⟩
end Go.Proofs.Ytlmgkdilidgkgaa
