/- A schedule made; a schedule behind so many ticks. -/
import Derived.Test.YtlmgkdilidgkgaaSched3
import Derived.Test.YtlmgkdilidgkgaaSched4
import Derived.Test.YtlmgkdilidgkgaaRowF
namespace Go.Proofs.Ytlmgkdilidgkgaa
open Go.RowKit
set_option linter.unusedVariables false
set_option linter.unusedSimpArgs false
theorem keW : KElem Try.prog 23 50 (.agg #[.int .i64 0, .int .i64 0]) 2 16 := ⟨Try.underlying23, by kernel_rfl, by kernel_rfl, by decide, by decide⟩
/-- two numbers of an element -/
def two2 (X Y : Nat → Int) (i r : Nat) : Value := if r = 0 then .int .i64 (X i) else .int .i64 (Y i)
theorem two2_one (X Y : Nat → Int) (i r : Nat) : (two2 X Y i r).oneCell' = true := by unfold two2; split <;> rfl
theorem Sl2.flat {w : World} {p : Option Addr} {n : Nat} {X Y : Nat → Int} (h : Sl2 w p n X Y) : SlF w 2 p n (two2 X Y) := by
  rcases h with h | ⟨b, o, e, hc⟩
  · exact .inl h
  · refine .inr ⟨b, o, e, fun i hi r hr => ?_⟩
    match r, hr with
    | 0, _ => exact (hc i hi).1
    | 1, _ => exact (hc i hi).2
set_option maxHeartbeats 1000000 in
theorem clone_any (b o L c : Nat) (X Y : Nat → Int) (w : World) (h : Sl2 w (some ⟨b, o, none⟩) L X Y) (hL : L ≤ 1000) (hL1 : 1 ≤ L) :
    Calls Try.prog 21 #[.slice (some ⟨b, o, none⟩) L c] w fun e w' => ∃ g cap, e = .returned (.slice (some ⟨g, 0, none⟩) L cap) ∧ w.heap.size ≤ g ∧ g < w'.heap.size ∧
      (∀ i, i < L → w'.cell? ⟨g, i * 2, none⟩ = some (.int .i64 (X i)) ∧ w'.cell? ⟨g, i * 2 + 1, none⟩ = some (.int .i64 (Y i))) ∧ Below w.heap.size w w' := by
  have hnil := fun (w : World) => Lib.run_eql_slice_nil (P := Try.prog) w 23 50 (some ⟨b, o, none⟩) L c 0 0 Try.underlying23
  have HF := Lib.hid h.flat
  clear h
  go_enter Try.func21, Try.ntmps21
  go_wp2_with (at_builtin; refine appF rfl _ _ _ rfl keW (.slice (some ⟨w.heap.size, 0, none⟩) 0 0) 0 [] (by rfl) (ownF_none (Nat.le_refl _)) (some ⟨b, o, none⟩) L c (two2 X Y) (by rfl) (fun e => by cases e) (HF.out.below ((Below.refl _ _).alloc (Nat.le_refl _) _)) (fun i r _ => two2_one X Y i r) (by omega) (by simp) ?c1)
  case c1 =>
    intro v1 w1 o1 b1 g1
    (try rw [List.nil_append, Nat.zero_add] at o1)
    obtain ⟨a, cc, rfl, hsl, hab, hanil, _⟩ := ownF_sl o1
    have hb : Below w.heap.size w w1 := ((Below.refl w.heap.size w).alloc (Nat.le_refl _) _).trans b1
    rcases hsl with h0 | ⟨gb, oo, rfl, hc⟩
    · omega
    obtain ⟨hg1, hg2, rfl⟩ := hab gb oo rfl
    have HC := Lib.hid hc
    have HB := Lib.hid hb
    clear o1 b1 g1 hb hc hab hanil
    go_wp2
    go_ret
    refine ⟨gb, cc, rfl, hg1, hg2, fun i hi => ⟨?_, ?_⟩, HB.out⟩
    · simpa [two2] using HC.out i hi 0 (by decide)
    · simpa [two2] using HC.out i hi 1 (by decide)
/-- how many ticks a round has -/
def majN (C : Cfg) : Nat := (rowL C).length
theorem majN_eq {C : Cfg} (h : NumOk C) : (majN C : Int) = majT C := rowTo_length h.ticks C.nW (Nat.le_refl _)
/-- which window, and how many of its ticks are gone -/
def stA (C : Cfg) (t : Nat) : Nat := winAt C (t % majN C)
def stG (C : Cfg) (t : Nat) : Int := ((t % majN C : Nat) : Int) - sumF C.wt (stA C t)
theorem st_spec {C : Cfg} (h : NumOk C) (t : Nat) : stA C t < C.nW ∧ 0 ≤ stG C t ∧ stG C t + 1 ≤ C.wt (stA C t) := by
  have hm := majN_eq h
  have hmj := h.maj
  have hx : t % majN C < majN C := Nat.mod_lt _ (by omega)
  have hs := winAt_spec h.ticks (x := t % majN C) (by show _ < majT C; omega)
  unfold stG stA
  have he : sumF C.wt (winAt C (t % majN C) + 1) = sumF C.wt (winAt C (t % majN C)) + C.wt (winAt C (t % majN C)) := rfl
  exact ⟨hs.1, by omega, by omega⟩
theorem st_zero {C : Cfg} (h : NumOk C) : stA C 0 = 0 ∧ stG C 0 = 0 := by
  have hN := h.N
  have ht := h.ticks 0 (by omega)
  have h0 : winAt C 0 = 0 := winAt_of h.ticks (i := 0) (by omega) (by simp [sumF]) (by simp [sumF]; omega)
  unfold stG stA
  rw [Nat.zero_mod, h0]
  exact ⟨rfl, rfl⟩
theorem st_in {C : Cfg} (h : NumOk C) {t : Nat} (hg : stG C t + 1 < C.wt (stA C t)) : stA C (t + 1) = stA C t ∧ stG C (t + 1) = stG C t + 1 := by
  have hm := majN_eq h
  have hmj := h.maj
  have hs := st_spec h t
  have hx : t % majN C < majN C := Nat.mod_lt _ (by omega)
  have hmono := sumT_mono h.ticks (a := stA C t + 1) (b := C.nW) (by omega) (Nat.le_refl _)
  have he : sumF C.wt (stA C t + 1) = sumF C.wt (stA C t) + C.wt (stA C t) := rfl
  have hG : stG C t = ((t % majN C : Nat) : Int) - sumF C.wt (stA C t) := rfl
  have hlt : t % majN C + 1 < majN C := by
    unfold majT at hm
    omega
  have hmod : (t + 1) % majN C = t % majN C + 1 := by
    rw [Nat.add_mod, Nat.mod_eq_of_lt (show 1 < majN C by omega), Nat.mod_eq_of_lt hlt]
  have hw : winAt C (t % majN C + 1) = stA C t := winAt_of h.ticks (i := stA C t) hs.1 (by omega) (by omega)
  have h1 : stA C (t + 1) = stA C t := by
    show winAt C ((t + 1) % majN C) = _
    rw [hmod, hw]
  refine ⟨h1, ?_⟩
  show (((t + 1) % majN C : Nat) : Int) - sumF C.wt (stA C (t + 1)) = _
  rw [h1, hmod, hG]
  push_cast
  omega
theorem st_next {C : Cfg} (h : NumOk C) {t : Nat} (hg : stG C t + 1 = C.wt (stA C t)) : stA C (t + 1) = (stA C t + 1) % C.nW ∧ stG C (t + 1) = 0 := by
  have hm := majN_eq h
  have hmj := h.maj
  have hs := st_spec h t
  have hx : t % majN C < majN C := Nat.mod_lt _ (by omega)
  have he : sumF C.wt (stA C t + 1) = sumF C.wt (stA C t) + C.wt (stA C t) := rfl
  have hG : stG C t = ((t % majN C : Nat) : Int) - sumF C.wt (stA C t) := rfl
  by_cases hl : stA C t + 1 < C.nW
  · have hmono := sumT_mono h.ticks (a := stA C t + 1 + 1) (b := C.nW) (by omega) (Nat.le_refl _)
    have hw1 := h.ticks (stA C t + 1) hl
    have he2 : sumF C.wt (stA C t + 1 + 1) = sumF C.wt (stA C t + 1) + C.wt (stA C t + 1) := rfl
    have hlt : t % majN C + 1 < majN C := by
      unfold majT at hm
      omega
    have hmod : (t + 1) % majN C = t % majN C + 1 := by
      rw [Nat.add_mod, Nat.mod_eq_of_lt (show 1 < majN C by omega), Nat.mod_eq_of_lt hlt]
    have hw : winAt C (t % majN C + 1) = stA C t + 1 := winAt_of h.ticks (i := stA C t + 1) hl (by omega) (by omega)
    have h1 : stA C (t + 1) = stA C t + 1 := by
      show winAt C ((t + 1) % majN C) = _
      rw [hmod, hw]
    refine ⟨by rw [h1, Nat.mod_eq_of_lt hl], ?_⟩
    show (((t + 1) % majN C : Nat) : Int) - sumF C.wt (stA C (t + 1)) = _
    rw [h1, hmod]
    push_cast
    omega
  · have hl2 : stA C t + 1 = C.nW := by omega
    have hlt : t % majN C + 1 = majN C := by
      unfold majT at hm
      rw [← hl2] at hm
      omega
    have hmod : (t + 1) % majN C = 0 := by
      by_cases h1 : majN C = 1
      · rw [h1, Nat.mod_one]
      · rw [Nat.add_mod, Nat.mod_eq_of_lt (show 1 < majN C by omega), hlt, Nat.mod_self]
    have hz := st_zero h
    have h1 : stA C (t + 1) = 0 := by
      show winAt C ((t + 1) % majN C) = _
      rw [hmod]
      have := hz.1
      unfold stA at this
      rwa [Nat.zero_mod] at this
    refine ⟨by rw [h1, hl2, Nat.mod_self], ?_⟩
    show (((t + 1) % majN C : Nat) : Int) - sumF C.wt (stA C (t + 1)) = _
    rw [h1, hmod]
    rfl
/-- a schedule behind t ticks -/
def AtT (W : World) (g gl cap : Nat) (C : Cfg) (t : Nat) : Prop := IsS W g gl C.nW cap C.wp C.wt (stA C t : Nat) (stG C t) (t : Nat)
theorem AtT.below {W W' : World} {g gl cap : Nat} {C : Cfg} {t : Nat} (h : AtT W g gl cap C t) (hb : Below W.heap.size W W') : AtT W' g gl cap C t := IsS.below h hb
theorem tick_at (g gl cap : Nat) (C : Cfg) (t : Nat) (w : World) (hok : NumOk C) (h : AtT w g gl cap C t) (ht : t ≤ 1000000) :
    Calls Try.prog 17 #[.pointer (some ⟨g, 0, none⟩)] w fun e w' => e = .returned (.tuple #[.int .i64 (C.wp (stA C t)), .int .i64 (C.wp (stA C (t + 1)))]) ∧ AtT w' g gl cap C (t + 1) ∧ Kept g w w' := by
  have hs := st_spec hok t
  have hN := hok.N
  have htk := hok.ticks (stA C t) hs.1
  have hc : ((t + 1 : Nat) : Int) = (t : Int) + 1 := by push_cast; rfl
  unfold AtT at *
  by_cases hg : stG C t + 1 < C.wt (stA C t)
  · obtain ⟨e1, e2⟩ := st_in hok hg
    rw [e1, e2, hc]
    exact tick_in g gl C.nW cap C.wp C.wt (stA C t) (stG C t) t w h hs.1 hs.2.1 hg htk.2 (by omega) (by omega)
  · obtain ⟨e1, e2⟩ := st_next hok (t := t) (by omega)
    have hn := tick_next g gl C.nW cap C.wp C.wt (stA C t) (stA C (t + 1)) (stG C t) t w h hs.1 (by omega) hs.2.1 (by omega) htk.2 (by omega) (by omega) e1
    rw [e2, hc]
    exact hn
set_option maxHeartbeats 1000000 in
theorem snew_bad (C : Cfg) (l : Lay) (w : World) (h : IsC w C l) (hN : C.nP ≤ 1000000 ∧ C.nW ≤ 1000000 ∧ C.nC ≤ 1000000) (hok : ¬ CkOk C) :
    Calls Try.prog 9 #[.agg (cfgV C l)] w fun e w' => e = .returned (.tuple #[.pointer none, .int .i64 (ckE C)]) ∧ Below w.heap.size w w' := by
  have hmj := fun (W : World) (h : IsC W C l) => major_any C l W h hN
  have hne := ckE_ne hok
  have HM := Lib.hid hmj
  have HI := Lib.hid h
  clear hmj h hok hN
  obtain ⟨pP, cP, pW, cW, pC, cC⟩ := l
  unfold cfgV at *
  simp only at *
  generalize ckE C = er at *
  generalize majR C = mr at *
  go_enter Try.func9, Try.ntmps9
  go_wp2_with fail
  refine (HM.out _ (by exact HI.out.below (by go_grown))).mono ?_; rintro e w1 ⟨rfl, hb⟩
  go_wp2
  go_ret2
  exact ⟨rfl, bstep (by go_grown) hb⟩
set_option maxHeartbeats 1000000 in
theorem snew_ok (C : Cfg) (l : Lay) (w : World) (h : IsC w C l) (hN : C.nP ≤ 1000000 ∧ C.nW ≤ 1000000 ∧ C.nC ≤ 1000000) (hok : CkOk C) :
    Calls Try.prog 9 #[.agg (cfgV C l)] w fun e w' => ∃ g gl cap, e = .returned (.tuple #[.pointer (some ⟨g, 0, none⟩), .int .i64 0]) ∧ AtT w' g gl cap C 0 ∧ w.heap.size ≤ g ∧ w.heap.size ≤ gl ∧ Below w.heap.size w w' := by
  have hmj := fun (W : World) (h : IsC W C l) => major_any C l W h hN
  rw [ckE_ok hok] at hmj
  have HM := Lib.hid hmj
  have HI := Lib.hid h
  have HZ := Lib.hid (st_zero hok.1)
  have hNN := hok.1.N
  clear hmj h hok hN
  obtain ⟨pP, cP, pW, cW, pC, cC⟩ := l
  unfold cfgV at *
  simp only at *
  generalize majR C = mr at *
  go_enter Try.func9, Try.ntmps9
  go_wp2_with fail
  refine (HM.out _ (by exact HI.out.below (by go_grown))).mono ?_; rintro e w1 ⟨rfl, hb⟩
  have hB1 : Below w.heap.size w w1 := bstep (by go_grown) hb
  have hv0 : w1.heap[w.heap.size]? = some (.cells #[.slice pP C.nP cP, .slice pW C.nW cW, .slice pC C.nC cC] 26 (0, 0)) := bk_below (bk_new w _) hb
  have hI1 := HI.out.below hB1
  have c1 : w1.cell? ⟨w.heap.size, 1, none⟩ = some (.slice pW C.nW cW) := (bk_cell hv0 1).trans rfl
  rcases hI1.W with h0 | ⟨b, o, e5, hc⟩
  · omega
  simp only at e5
  subst e5
  have HW := Lib.hid (show Sl2 w1 (some ⟨b, o, none⟩) C.nW C.wp C.wt from .inr ⟨b, o, rfl, hc⟩)
  have HB1 := Lib.hid hB1
  clear hb hB1 hv0 hI1 hc
  go_wp2_with fail
  refine (clone_any b o C.nW cW C.wp C.wt _ HW.out (by omega) (by omega)).mono ?_; rintro e w2 ⟨gl, cap, rfl, hg1, hg2, hrow, hb2⟩
  have HR := Lib.hid hrow
  have HB2 := Lib.hid (bstep HB1.out hb2)
  have hz1 := HB1.out.size
  have hz2 := hb2.size
  clear hrow hb2
  go_wp2
  go_ret2
  refine ⟨w2.heap.size, gl, cap, rfl, ⟨?_, fun i hi => ⟨keepc ((Below.refl _ _).alloc (Nat.le_refl _) _) (HR.out i hi).1, keepc ((Below.refl _ _).alloc (Nat.le_refl _) _) (HR.out i hi).2⟩, by omega⟩, by omega, by omega, HB2.out.alloc HB2.out.size _⟩
  rw [HZ.out.1, HZ.out.2]
  exact bk_new _ _
end Go.Proofs.Ytlmgkdilidgkgaa
