/- A channel: its words in the memory, put and got. -/
import Derived.Test.YtofkgceenppdbaaMem
import Derived.Test.YtofkgceenppdbaaRing5
namespace Go.Proofs.Ytofkgceenppdbaa
open Go.RowKit
set_option linter.unusedVariables false
set_option linter.unusedSimpArgs false
/-- a channel's value -/
def chV (R mm from_ : Nat) (cf ct cc cw : Int) : Value := .agg #[.pointer (some ⟨R, 0, none⟩), .pointer (some ⟨mm, 0, none⟩), .int .i64 from_, .int .i64 cf, .int .i64 ct, .int .i64 cc, .int .i64 cw]
/-- words within words -/
def ovl (M : Nat → Int) (p N : Nat) (f : Nat → Int) : Nat → Int := fun j => if p ≤ j ∧ j < p + N then f (j - p) else M j
theorem ovl_set (M : Nat → Int) (p N : Nat) (f : Nat → Int) (a : Nat) (x : Int) (ha : a < N) : updM (ovl M p N f) (p + a) x = ovl M p N (upd f a x) := by
  funext j
  unfold updM ovl upd
  by_cases h : j = p + a
  · subst h
    rw [if_pos rfl, if_pos (by omega), if_pos (by omega)]
  · rw [if_neg h]
    by_cases h2 : p ≤ j ∧ j < p + N
    · rw [if_pos h2, if_pos h2, if_neg (by omega)]
    · rw [if_neg h2, if_neg h2]
theorem ovl_at {M : Nat → Int} {p N : Nat} {f : Nat → Int} {a : Nat} (ha : a < N) : ovl M p N f (p + a) = f a := by
  unfold ovl
  rw [if_pos (by omega)]
  congr 1
  omega
theorem ovl_self (M : Nat → Int) (p N : Nat) : ovl M p N (fun i => M (p + i)) = M := by
  funext j
  unfold ovl
  by_cases h : p ≤ j ∧ j < p + N
  · rw [if_pos h]
    show M (p + (j - p)) = M j
    rw [show p + (j - p) = j by omega]
  · rw [if_neg h]
/-- a channel's words, the rest of the memory being M -/
def ChS (M : Nat → Int) (mm fb nF p N : Nat) (f : Nat → Int) (w : World) : Prop := MemS w mm fb nF (ovl M p N f) ∧ ∀ i, i < N → 0 ≤ f i ∧ f i < 4294967296
theorem wrapN {q : Nat} (h : q ≤ 1000000) : wrap64 (q : Int) = (q : Int) := IntWalk.wrap64_in _ ⟨by omega, by omega⟩
theorem wrapNN {p q t : Nat} (h : t ≤ 1000000) (ht : t = p + q) : wrap64 ((p : Int) + (q : Int)) = (t : Int) := by rw [← Int.natCast_add, ← ht]; exact wrapN h
theorem qlt {fr q a N n : Nat} (hq : q = a / 32) (ha : a < N) (hN : fr * 32 + N ≤ n * 32) (hF : n ≤ 1024) : fr + q < n := by omega
theorem updb {f : Nat → Int} {N a : Nat} {x : Int} (h : ∀ i, i < N → 0 ≤ f i ∧ f i < 4294967296) (hx : 0 ≤ x ∧ x < 4294967296) : ∀ i, i < N → 0 ≤ upd f a x i ∧ upd f a x i < 4294967296 := by
  intro i hi
  unfold upd
  split
  · exact hx
  · exact h i hi
theorem wrapw {fr q n t : Nat} (h : fr + q < n) (hF : n ≤ 1024) (ht : t = fr + q) : wrap64 ((fr : Int) + wrap64 (q : Int)) = (t : Int) := by
  rw [wrapN (show q ≤ 1000000 by omega)]
  exact wrapNN (by omega) ht
theorem tdivq {a q : Nat} (h : q = a / 32) : (a : Int).tdiv 32 = (q : Int) := by rw [Int.tdiv_eq_ediv_of_nonneg (by omega)]; omega
theorem tmodm {a m : Nat} (h : m = a % 32) : (a : Int).tmod 32 = (m : Int) := by rw [Int.tmod_eq_emod_of_nonneg (by omega)]; omega
set_option maxHeartbeats 1000000 in
theorem cput_any (M : Nat → Int) (R mm fb nF fr N a : Nat) (cf ct cc cw x : Int) (f : Nat → Int) (w : World) (h : ChS M mm fb nF (fr * 32) N f w) (ha : a < N) (hN : fr * 32 + N ≤ nF * 32) (hF : nF ≤ 1024) (hx0 : 0 ≤ x) (hx1 : x < 4294967296) :
    Calls Try.prog 36 #[chV R mm fr cf ct cc cw, .int .i64 a, .int .u32 x] w fun e w' => e = .returned (.tuple #[]) ∧ ChS M mm fb nF (fr * 32) N (upd f a x) w' ∧ Kept fb w w' := by
  have HM := Lib.hid h.1
  have HF := Lib.hid h.2
  have HX := Lib.hid (And.intro hx0 hx1)
  have hs := ovl_set M (fr * 32) N f a x ha
  obtain ⟨q, hq⟩ : ∃ q : Nat, q = a / 32 := ⟨_, rfl⟩
  obtain ⟨m, hm⟩ : ∃ m : Nat, m = a % 32 := ⟨_, rfl⟩
  obtain ⟨t, ht⟩ : ∃ t : Nat, t = fr + q := ⟨_, rfl⟩
  have hq2 : (a : Int).tdiv 32 = (q : Int) := tdivq hq
  have hr2 : (a : Int).tmod 32 = (m : Int) := tmodm hm
  have hl := qlt hq ha hN hF
  have hs1 := wrapw hl hF ht
  have hj : t * 32 + m = fr * 32 + a := by rw [ht, hq, hm, Nat.add_mul, Nat.add_assoc, Nat.mul_comm (a / 32) 32, Nat.div_add_mod]
  have HW := Lib.hid fun (W : World) (h : MemS W mm fb nF (ovl M (fr * 32) N f)) => mwrite_any mm fb nF t m _ x W h (ht ▸ hl) (hm ▸ Nat.mod_lt _ (by decide))
  rw [hj, hs] at HW
  clear h hs hj hq hm ht hl hx0 hx1 hF hN ha
  unfold chV
  go_enter Try.func36, Try.ntmps36
  go_wp2_with fail
  refine (HW.out _ ?_).mono ?_
  · exact HM.out.below (by go_grown)
  · rintro e w1 ⟨rfl, h3, h4⟩
    have HU := Lib.hid (show ∀ i, i < N → 0 ≤ upd f a x i ∧ upd f a x i < 4294967296 from updb HF.out HX.out)
    have HK := Lib.hid (show Kept fb w w1 from (Kept.of_below ((Below.refl _ _).alloc (Nat.le_refl _) _)).trans h4)
    have H3 := Lib.hid h3
    clear h3 h4
    go_wp2
    go_end0
    exact ⟨rfl, ⟨H3.out, HU.out⟩, HK.out⟩
set_option maxHeartbeats 1000000 in
theorem cget_any (M : Nat → Int) (R mm fb nF fr N a : Nat) (cf ct cc cw : Int) (f : Nat → Int) (w : World) (h : ChS M mm fb nF (fr * 32) N f w) (ha : a < N) (hN : fr * 32 + N ≤ nF * 32) (hF : nF ≤ 1024) :
    Calls Try.prog 38 #[chV R mm fr cf ct cc cw, .int .i64 a] w fun e w' => e = .returned (.int .u32 (f a)) ∧ Below w.heap.size w w' := by
  have HM := Lib.hid h.1
  obtain ⟨q, hq⟩ : ∃ q : Nat, q = a / 32 := ⟨_, rfl⟩
  obtain ⟨m, hm⟩ : ∃ m : Nat, m = a % 32 := ⟨_, rfl⟩
  obtain ⟨t, ht⟩ : ∃ t : Nat, t = fr + q := ⟨_, rfl⟩
  have hq2 : (a : Int).tdiv 32 = (q : Int) := tdivq hq
  have hr2 : (a : Int).tmod 32 = (m : Int) := tmodm hm
  have hl := qlt hq ha hN hF
  have hs1 := wrapw hl hF ht
  have hj : t * 32 + m = fr * 32 + a := by rw [ht, hq, hm, Nat.add_mul, Nat.add_assoc, Nat.mul_comm (a / 32) 32, Nat.div_add_mod]
  have HW := Lib.hid fun (W : World) (h : MemS W mm fb nF (ovl M (fr * 32) N f)) => mread_any mm fb nF t m _ W h (ht ▸ hl) (hm ▸ Nat.mod_lt _ (by decide))
  rw [hj, ovl_at ha] at HW
  clear h hj hq hm ht hl hF hN ha
  unfold chV
  go_enter Try.func38, Try.ntmps38
  go_wp2_with fail
  refine (HW.out _ ?_).mono ?_
  · exact HM.out.below (by go_grown)
  · rintro e w1 ⟨rfl, h4⟩
    have HK := Lib.hid (show Below w.heap.size w w1 from bstep ((Below.refl _ _).alloc (Nat.le_refl _) _) h4)
    clear h4
    go_wp2
    go_ret
    exact ⟨rfl, HK.out⟩
/-- the ring's keeper: the memory's words -/
theorem chKeeps {M : Nat → Int} {R mm fb nF fr N : Nat} {cf ct cc cw : Int} (hR : mm ≠ R) (hR2 : fb ≠ R) (hN : fr * 32 + N ≤ nF * 32) (hF : nF ≤ 1024) :
    Keeps R fb N (ChS M mm fb nF (fr * 32) N) 36 38 (chV R mm fr cf ct cc cw) where
  ne := hR2
  lt := fun h => h.1.lts.2
  eP := fun args w => by kernel_rfl
  eG := fun args w => by kernel_rfl
  keep := fun h k => ⟨h.1.kept k hR hR2, h.2⟩
  word := fun h => h.2
  put := fun f W a x h ha h0 h1 => cput_any M R mm fb nF fr N a cf ct cc cw x f W h ha hN hF h0 h1
  get := fun f W a h ha => cget_any M R mm fb nF fr N a cf ct cc cw f W h ha hN hF
end Go.Proofs.Ytofkgceenppdbaa
