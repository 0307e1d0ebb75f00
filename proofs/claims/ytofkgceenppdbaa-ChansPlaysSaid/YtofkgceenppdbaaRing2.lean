/- A ring's Send, Next and Recv, over words that are kept by whatever keeps them. -/
import Derived.Test.YtofkgceenppdbaaRing
namespace Go.Proofs.Ytofkgceenppdbaa
open Go.RowKit
set_option linter.unusedVariables false
set_option linter.unusedSimpArgs false
variable {R K N : Nat} {S : (Nat → Int) → World → Prop} {PF GF : FuncId} {rv : Value}
/-- a message's words, so many of them put -/
def lay (f : Nat → Int) (p : Nat) (X : Nat → Int) (L k : Nat) : Nat → Int := fun j => if j = p then L else if p < j ∧ j ≤ p + k then X (j - p - 1) else f j
theorem lay_zero (f : Nat → Int) (p : Nat) (X : Nat → Int) (L : Nat) : lay f p X L 0 = upd f p L := by
  funext j
  unfold lay upd
  by_cases h : j = p
  · simp [h]
  · rw [if_neg h, if_neg (by omega), if_neg h]
theorem lay_succ (f : Nat → Int) (p : Nat) (X : Nat → Int) (L k : Nat) : lay f p X L (k + 1) = upd (lay f p X L k) (p + (1 + k)) (X k) := by
  funext j
  simp only [lay, upd]
  by_cases h : j = p
  · rw [if_pos h, if_neg (by omega), if_pos h]
  · by_cases h2 : j = p + (1 + k)
    · rw [if_neg h, if_pos h2, if_pos (by omega)]
      congr 1
      omega
    · rw [if_neg h, if_neg h2, if_neg h]
      by_cases h3 : p < j ∧ j ≤ p + k
      · rw [if_pos h3, if_pos (by omega)]
      · rw [if_neg h3, if_neg (by omega)]
theorem lay_any (kp : Keeps R K N S PF GF rv) (P A p i : Nat) (iv : Int) (hiv : iv = i) (x : Int) (f : Nat → Int) (w : World) (hP : w.cell? ⟨P, 0, none⟩ = some (.func (.func PF) #[rv] #[])) (hA : w.cell? ⟨A, 0, none⟩ = some (.int .i64 p)) (hS : S f w)
    (hi : p + i < N) (hN : N ≤ 100000) (h0 : 0 ≤ x) (h1 : x < 4294967296) :
    Calls Try.prog 56 #[.int .i64 iv, .int .u32 x, .pointer (some ⟨P, 0, none⟩), .pointer (some ⟨A, 0, none⟩)] w fun e w' => e = .returned (.tuple #[]) ∧ S (upd f (p + i) x) w' ∧ Kept K w w' := by
  subst hiv
  have hc := kp.put f w (p + i) x hS hi h0 h1
  rw [show ((p + i : Nat) : Int) = (p : Int) + i from by omega] at hc
  have HC := Lib.hid hc
  have HS := Lib.hid hS
  have eP := kp.eP
  clear hc hS
  have e1 : IntKind.i64.wrap ((p : Int) + i) = (p : Int) + i := IntWalk.i64_in _ (by omega)
  go_enter Try.func56, Try.ntmps56
  go_wp2_with fail
  refine HC.out.mono ?_
  rintro e w' ⟨rfl, h2, h3⟩
  go_wp2
  go_end0
  exact ⟨rfl, h2, h3⟩
set_option maxHeartbeats 1000000 in
theorem send_ok (kp : Keeps R K N S PF GF rv) (c d a m L cap b o : Nat) (f X : Nat → Int) (w : World) (hc : 1 ≤ c) (hc8 : c ≤ 8) (hd8 : d ≤ 8) (ha : a < c) (hm : m < c) (hN : c * (d + 1) ≤ N) (hN2 : N ≤ 100000)
    (hL1 : 1 ≤ L) (hL : L ≤ d) (hR : IsRing w R c d a m) (hS : S f w) (hbK : b ≠ K) (hbR : b ≠ R) (hX : ∀ i, i < L → w.cell? ⟨b, o + i, none⟩ = some (.int .u32 (X i))) (hXw : ∀ i, i < L → 0 ≤ X i ∧ X i < 4294967296) :
    Calls Try.prog 37 #[.pointer (some ⟨R, 0, none⟩), .slice (some ⟨b, o, none⟩) L cap, .func (.func PF) #[rv] #[]] w fun e w' => e = .returned (.int .i64 0) ∧ IsRing w' R c d a (m + 1) ∧ S (lay f (plc c d a m) X L L) w' ∧ Kept2 R K w w' := by
  have hmf : ∀ (fn : Fn) (first cap : Array Value) (w : World), (Instr.makeFunc fn first cap).run Try.prog w = .ok (.func fn first cap) w := fun _ _ _ _ => rfl
  have hp := plc_le (c := c) (d := d) (a := a) (k := m) hc
  have hRK := kp.ne
  obtain ⟨h0, h1, h2, h3, f2, f3⟩ := hR.cells
  have hRl := bk_lt hR
  have t1 : ¬ (L : Int) < 1 := by omega
  have t2 : ¬ (d : Int) < L := by omega
  have t3 : ((m : Int) == c) = false := beq_eq_false_iff_ne.2 (by omega)
  have hqP := eqP
  have HX := Lib.hid hX
  have HXw := Lib.hid hXw
  have HR := Lib.hid hR
  have HS := Lib.hid hS
  clear hX hXw hR hS
  go_enter Try.func37, Try.ntmps37
  go_wp2_with fail
  refine (none_not R c d a m _ (bk_alloc HR.out _) hc).mono ?_
  rintro e w1 ⟨rfl, rfl⟩
  go_wp2_with fail
  go_quiet (fail)
  go_wp2_with fail
  refine (place_any R c d a m m _ (by exact bk_alloc HR.out _) hc hc8 hd8 (by omega) (by omega)).mono ?_
  rintro e w2 ⟨rfl, hb2⟩
  have hB2 : Below w.heap.size w w2 := bstep (bdrewN ((Below.refl _ _).alloc (Nat.le_refl _) _) _) hb2
  have hP2 : w2.cell? ⟨w.heap.size, 0, none⟩ = some (.func (.func PF) #[rv] #[]) := keepc hb2 ((bk_cell (bk_new w (.cells #[.func (.func PF) #[rv] #[]] 88)) 0).trans rfl)
  have hz2 := hb2.size
  rw [show ((w.alloc (.cells #[.func (.func PF) #[rv] #[]] 88)).drewN nq).heap.size = w.heap.size + 1 from by simp [World.drewN]] at hz2
  have hKl := kp.lt HS.out
  have HB2 := Lib.hid hB2
  clear hb2 hB2 h0 h1 h2 h3 f2 f3
  have hu : IntKind.u32.wrap (L : Int) = L := by rw [IntKind.wrap_u32]; omega
  have hpN : plc c d a m + (d + 1) ≤ N := Nat.le_trans hp hN
  generalize hpos : plc c d a m = pos at *
  have HPOS := Lib.hid hpos
  clear hpos
  go_wp2_with fail
  have hA3 : (w2.alloc (.cells #[.int .i64 pos] 3)).cell? ⟨w2.heap.size, 0, none⟩ = some (.int .i64 pos) := (bk_cell (bk_new w2 (.cells #[.int .i64 pos] 3)) 0).trans rfl
  have hP3 : (w2.alloc (.cells #[.int .i64 pos] 3)).cell? ⟨w.heap.size, 0, none⟩ = some (.func (.func PF) #[rv] #[]) := keepc (by go_grown) hP2
  have hB3 : Below w.heap.size w (w2.alloc (.cells #[.int .i64 pos] 3)) := HB2.out.alloc HB2.out.size _
  have hz3 : (w2.alloc (.cells #[.int .i64 pos] 3)).heap.size = w2.heap.size + 1 := by simp
  generalize w2.alloc (.cells #[.int .i64 pos] 3) = w3 at *
  have hS3 : S f w3 := kp.keep HS.out (.of_below hB3)
  have HA3 := Lib.hid hA3
  have HP3 := Lib.hid hP3
  have HB3 := Lib.hid hB3
  have HR3 := Lib.hid (HR.out.below hB3)
  have HS3 := Lib.hid hS3
  have hAK : w2.heap.size ≠ K := by omega
  have hPK : w.heap.size ≠ K := by omega
  have hPl : w.heap.size < w3.heap.size := by omega
  have hlt3 : w2.heap.size < w3.heap.size := by omega
  clear hA3 hP3 hB3 hS3 hP2 hz3
  refine (lay_any kp _ _ pos 0 _ (by rfl) L f _ HP3.out HA3.out HS3.out (by omega) hN2 (by omega) (by omega)).mono ?_
  rintro e w4 ⟨rfl, hS4, hk4⟩
  have hS4' : S (lay f pos X L 0) w4 := by rw [lay_zero]; exact hS4
  have HS4 := Lib.hid hS4'
  have HK4 := Lib.hid hk4
  clear hS4 hS4' hk4
  go_wp2_with fail
  go_loopw [55] (fun n W' => ∃ k : Nat, k ≤ L ∧ n = .int .i64 k ∧ S (lay f pos X L k) W' ∧ Kept K w3 W') (fun n _ => L - (intOf n).toNat)
  case atStart => exact ⟨0, by omega, rfl, HS4.out, HK4.out⟩
  case round =>
    obtain ⟨k, hk, rfl, hSk, hkk⟩ := hrel
    by_cases hkL : k < L
    · have hkL' : (k : Int) < L := by omega
      have hw1 : IntKind.i64.wrap (1 + (k : Int)) = 1 + (k : Int) := IntWalk.i64_in _ (by omega)
      have hx := hkk.cell (keepc HB3.out (HX.out k hkL)) hbK
      obtain ⟨x0, x1⟩ := HXw.out k hkL
      have HP := Lib.hid (hkk.cell HP3.out hPK)
      have HA := Lib.hid (hkk.cell HA3.out hAK)
      have HSk := Lib.hid hSk
      have HKk := Lib.hid hkk
      clear hSk hkk
      go_wp2_with fail
      refine (lay_any kp _ _ pos (1 + k) _ (by omega) (X k) (lay f pos X L k) _ HP.out HA.out HSk.out (by omega) hN2 x0 x1).mono ?_
      rintro e w5 ⟨rfl, hS5, hk5⟩
      rw [← lay_succ] at hS5
      have HS5 := Lib.hid hS5
      have HK5 := Lib.hid (HKk.out.trans hk5)
      clear hS5 hk5
      go_wp2
      refine ⟨⟨k + 1, by omega, by go_num, HS5.out, HK5.out⟩, by simp [intOf]; omega⟩
    · have hkL2 : k = L := by omega
      subst hkL2
      have hR5 : IsRing wr R c d a m := hkk.blk HR3.out (fun e => hRK e.symm)
      obtain ⟨h0, h1, h2, h3, f2, f3⟩ := hR5.cells
      have HR5 := Lib.hid hR5
      have HSk := Lib.hid hSk
      have HKk := Lib.hid hkk
      clear hSk hkk hR5
      have hmw : IntKind.i64.wrap ((m : Int) + 1) = (m : Int) + 1 := IntWalk.i64_in _ (by omega)
      go_wp2
      go_ret
      refine ⟨rfl, HR5.out.set3 (m + 1), by rw [HPOS.out]; exact kp.keep HSk.out ((Kept.refl R _).setCell 3 _), ?_⟩
      exact ((Kept2.of_below HB3.out).trans HKk.out.two2).trans ((Kept.refl R _).setCell 3 _).two1
end Go.Proofs.Ytofkgceenppdbaa
