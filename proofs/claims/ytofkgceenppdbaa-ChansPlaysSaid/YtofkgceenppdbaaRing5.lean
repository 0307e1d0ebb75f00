/- A ring as a row of messages: the contracts told so. -/
import Derived.Test.YtofkgceenppdbaaRing4
namespace Go.Proofs.Ytofkgceenppdbaa
open Go.RowKit
set_option linter.unusedVariables false
set_option linter.unusedSimpArgs false
variable {R K N : Nat} {S : (Nat → Int) → World → Prop} {PF GF : FuncId} {rv : Value}
theorem far {x y d : Nat} (h : x ≠ y) : x * (d + 1) + d < y * (d + 1) ∨ y * (d + 1) + d < x * (d + 1) := by
  rcases Nat.lt_or_gt_of_ne h with h | h
  · left
    have := Nat.mul_le_mul_right (d + 1) (show x + 1 ≤ y from h)
    rw [Nat.add_mul, Nat.one_mul] at this
    omega
  · right
    have := Nat.mul_le_mul_right (d + 1) (show y + 1 ≤ x from h)
    rw [Nat.add_mul, Nat.one_mul] at this
    omega
theorem mod_apart {a c i j : Nat} (hi : i < c) (hj : j < c) (h : i ≠ j) : (a + i) % c ≠ (a + j) % c := by
  intro e
  have hc : 0 < c := by omega
  have h1 : (i : Int) - j = (((a + i) / c : Nat) : Int) * c - (((a + j) / c : Nat) : Int) * c := by
    have e1 := Nat.div_add_mod (a + i) c
    have e2 := Nat.div_add_mod (a + j) c
    rw [Nat.mul_comm] at e1 e2
    rw [← e] at e2
    have e3 : (((a + i) / c : Nat) : Int) * c + ((a + i) % c : Nat) = (a : Int) + i := by exact_mod_cast e1
    have e4 : (((a + j) / c : Nat) : Int) * c + ((a + i) % c : Nat) = (a : Int) + j := by exact_mod_cast e2
    omega
  rw [← Int.sub_mul] at h1
  generalize (((a + i) / c : Nat) : Int) - (((a + j) / c : Nat) : Int) = q at h1
  have h2 : q = 0 ∨ 1 ≤ q ∨ q ≤ -1 := by omega
  rcases h2 with rfl | h2 | h2
  · simp at h1; omega
  · have := Int.mul_le_mul_of_nonneg_right h2 (show (0 : Int) ≤ c by omega)
    omega
  · have := Int.mul_le_mul_of_nonneg_right h2 (show (0 : Int) ≤ c by omega)
    omega
theorem plc_far {c d a i j : Nat} (hi : i < c) (hj : j < c) (h : i ≠ j) : plc c d a i + d < plc c d a j ∨ plc c d a j + d < plc c d a i := far (mod_apart hi hj h)
theorem plc_next {c d a i : Nat} : plc c d ((a + 1) % c) i = plc c d a (i + 1) := by
  unfold plc
  rw [Nat.mod_add_mod]
  congr 2
  omega
theorem plc_mod (c d a : Nat) : plc c d a c = plc c d a 0 := by
  simp [plc]
theorem lay_old {f X : Nat → Int} {p L j : Nat} (h : j < p ∨ p + L < j) : lay f p X L L j = f j := by
  unfold lay
  rw [if_neg (by omega), if_neg (by omega)]
theorem lay_head {f X : Nat → Int} {p L : Nat} : lay f p X L L p = L := by
  unfold lay
  rw [if_pos rfl]
theorem lay_msg {f : Nat → Int} {p : Nat} {xs : List Int} : msg (lay f p (fun i => xs.getD i 0) xs.length xs.length) p xs.length = xs := by
  apply List.ext_getElem?
  intro i
  unfold msg
  by_cases h : i < xs.length
  · rw [List.getElem?_map, List.getElem?_range h]
    simp only [Option.map_some, lay]
    rw [if_neg (by omega), if_pos (by omega)]
    rw [show p + 1 + i - p - 1 = i from by omega, List.getD_eq_getElem?_getD, List.getElem?_eq_getElem h]
    rfl
  · rw [List.getElem?_eq_none (by simp; omega), List.getElem?_eq_none (by omega)]
theorem msg_old {f g : Nat → Int} {p n : Nat} (h : ∀ j, p < j → j ≤ p + n → f j = g j) : msg f p n = msg g p n := by
  unfold msg
  apply List.map_congr_left
  intro i hi
  rw [List.mem_range] at hi
  exact h _ (by omega) (by omega)
/-- messages that lie one behind the other -/
def Lies (f : Nat → Int) (c d a : Nat) (L : List (List Int)) : Prop := ∀ i xs, L[i]? = some xs → f (plc c d a i) = xs.length ∧ msg f (plc c d a i) xs.length = xs ∧ 1 ≤ xs.length ∧ xs.length ≤ d
theorem Lies.nil (f : Nat → Int) (c d a : Nat) : Lies f c d a [] := by intro i xs h; simp at h
theorem Lies.send {f : Nat → Int} {c d a : Nat} {L : List (List Int)} {xs : List Int} (h : Lies f c d a L) (hL : L.length < c) (h1 : 1 ≤ xs.length) (hd : xs.length ≤ d) :
    Lies (lay f (plc c d a L.length) (fun i => xs.getD i 0) xs.length xs.length) c d a (L ++ [xs]) := by
  intro i ys hi
  by_cases hl : i < L.length
  · rw [List.getElem?_append_left hl] at hi
    obtain ⟨e1, e2, e3, e4⟩ := h i ys hi
    have hf := plc_far (c := c) (d := d) (a := a) (i := i) (j := L.length) (by omega) hL (by omega)
    refine ⟨?_, ?_, e3, e4⟩
    · rw [lay_old (by omega), e1]
    · rw [← e2]
      rw [e2]
      conv => rhs; rw [← e2]
      exact msg_old fun j j1 j2 => lay_old (by omega)
  · have hi2 : i = L.length := by
      have := (List.getElem?_eq_some_iff.1 hi).1
      simp at this
      omega
    subst hi2
    rw [List.getElem?_append_right (Nat.le_refl _), Nat.sub_self] at hi
    simp at hi
    subst hi
    exact ⟨lay_head, lay_msg, h1, hd⟩
theorem Lies.tail {f : Nat → Int} {c d a : Nat} {xs : List Int} {L : List (List Int)} (h : Lies f c d a (xs :: L)) : Lies f c d ((a + 1) % c) L := by
  intro i ys hi
  rw [plc_next]
  exact h (i + 1) ys (by simpa using hi)
theorem Lies.head {f : Nat → Int} {c d a : Nat} {xs : List Int} {L : List (List Int)} (h : Lies f c d a (xs :: L)) : nx f (plc c d a 0) d = xs.length ∧ msg f (plc c d a 0) xs.length = xs := by
  obtain ⟨e1, e2, e3, e4⟩ := h 0 xs (by simp)
  refine ⟨?_, e2⟩
  unfold nx
  rw [e1, if_pos (by omega)]
  omega
/-- a ring, and the messages that it has -/
def RS (S : (Nat → Int) → World → Prop) (R c d : Nat) (L : List (List Int)) (w : World) : Prop := ∃ a f, IsRing w R c d a L.length ∧ S f w ∧ a < c ∧ L.length ≤ c ∧ Lies f c d a L
theorem RS.lt {c d : Nat} {L : List (List Int)} {w : World} (h : RS S R c d L w) : R < w.heap.size := by
  obtain ⟨a, f, h, _⟩ := h
  exact bk_lt h
theorem RS.below (kp : Keeps R K N S PF GF rv) {c d : Nat} {L : List (List Int)} {w w' : World} (h : RS S R c d L w) (hb : Below w.heap.size w w') : RS S R c d L w' := by
  obtain ⟨a, f, h, hs, r⟩ := h
  exact ⟨a, f, h.below hb, kp.keep hs (.of_below hb), r⟩
theorem rs_send (kp : Keeps R K N S PF GF rv) (c d b o cap : Nat) (L : List (List Int)) (xs : List Int) (w : World) (hc : 1 ≤ c) (hc8 : c ≤ 8) (hd8 : d ≤ 8) (hN : c * (d + 1) ≤ N) (hN2 : N ≤ 100000)
    (h : RS S R c d L w) (hL : L.length < c) (h1 : 1 ≤ xs.length) (hd : xs.length ≤ d) (hbK : b ≠ K) (hbR : b ≠ R) (hX : ∀ i, i < xs.length → w.cell? ⟨b, o + i, none⟩ = some (.int .u32 (xs.getD i 0))) (hXw : ∀ i, i < xs.length → 0 ≤ xs.getD i 0 ∧ xs.getD i 0 < 4294967296) :
    Calls Try.prog 37 #[.pointer (some ⟨R, 0, none⟩), .slice (some ⟨b, o, none⟩) xs.length cap, .func (.func PF) #[rv] #[]] w fun e w' => e = .returned (.int .i64 0) ∧ RS S R c d (L ++ [xs]) w' ∧ Kept2 R K w w' := by
  obtain ⟨a, f, hr, hs, ha, hlc, hl⟩ := h
  refine (send_ok kp c d a L.length xs.length cap b o f (fun i => xs.getD i 0) w hc hc8 hd8 ha hL hN hN2 h1 hd hr hs hbK hbR hX hXw).mono ?_
  rintro e w' ⟨rfl, hr', hs', hk⟩
  exact ⟨rfl, ⟨a, _, by rw [List.length_append]; exact hr', hs', ha, by simp; omega, hl.send hL h1 hd⟩, hk⟩
theorem rs_next (kp : Keeps R K N S PF GF rv) (c d : Nat) (L : List (List Int)) (xs : List Int) (w : World) (hc : 1 ≤ c) (hc8 : c ≤ 8) (hd8 : d ≤ 8) (hN : c * (d + 1) ≤ N) (h : RS S R c d (xs :: L) w) :
    Calls Try.prog 46 #[.pointer (some ⟨R, 0, none⟩), .func (.func GF) #[rv] #[]] w fun e w' => e = .returned (.int .i64 xs.length) ∧ Below w.heap.size w w' := by
  obtain ⟨a, f, hr, hs, ha, hlc, hl⟩ := h
  refine (next_some kp c d a _ f w hc hc8 hd8 ha (by simp) hN hr hs).mono ?_
  rintro e w' ⟨rfl, hb⟩
  rw [hl.head.1]
  exact ⟨rfl, hb⟩
theorem rs_recv (kp : Keeps R K N S PF GF rv) (c d : Nat) (L : List (List Int)) (xs : List Int) (w : World) (hc : 1 ≤ c) (hc8 : c ≤ 8) (hd : 1 ≤ d) (hd8 : d ≤ 8) (hN : c * (d + 1) ≤ N) (hN2 : N ≤ 100000) (h : RS S R c d (xs :: L) w) :
    Calls Try.prog 39 #[.pointer (some ⟨R, 0, none⟩), .func (.func GF) #[rv] #[]] w fun e w' => ∃ v, e = .returned (.tuple #[v, .int .i64 0]) ∧ w'.ownsInts w.heap.size 40 .u32 v xs ∧ RS S R c d L w' ∧ Kept R w w' := by
  obtain ⟨a, f, hr, hs, ha, hlc, hl⟩ := h
  refine (recv_some kp c d a _ f w hc hc8 hd hd8 ha (by simp) hlc hN hN2 hr hs).mono ?_
  rintro e w' ⟨v, rfl, ho, hr', hk⟩
  rw [hl.head.1, hl.head.2] at ho
  exact ⟨v, rfl, ho, ⟨_, f, by simpa using hr', kp.keep hs hk, Nat.mod_lt _ (by omega), by simp at hlc; omega, hl.tail⟩, hk⟩
theorem rs_len (c d : Nat) (L : List (List Int)) (w : World) (h : RS S R c d L w) :
    Calls Try.prog 45 #[.pointer (some ⟨R, 0, none⟩)] w fun e w' => e = .returned (.int .i64 L.length) ∧ w' = w := by
  obtain ⟨a, f, hr, _⟩ := h
  exact len_any R c d a _ w hr
theorem rs_arg (c d : Nat) (L : List (List Int)) (p : Option Addr) (n cap : Nat) (fn : Fn) (fs cs : Array Value) (w : World) (h : RS S R c d L w) (hc : 1 ≤ c) (hn : n < 1 ∨ d < n) :
    Calls Try.prog 37 #[.pointer (some ⟨R, 0, none⟩), .slice p n cap, .func fn fs cs] w fun e w' => e = .returned (.int .i64 2) ∧ Below w.heap.size w w' := by
  obtain ⟨a, f, hr, _⟩ := h
  exact send_arg p n cap fn fs cs c d a _ w hr hc hn
theorem rs_full (c d : Nat) (L : List (List Int)) (p : Option Addr) (n cap : Nat) (fn : Fn) (fs cs : Array Value) (w : World) (h : RS S R c d L w) (hL : L.length = c) (hc : 1 ≤ c) (h1 : 1 ≤ n) (hn : n ≤ d) :
    Calls Try.prog 37 #[.pointer (some ⟨R, 0, none⟩), .slice p n cap, .func fn fs cs] w fun e w' => e = .returned (.int .i64 12) ∧ Below w.heap.size w w' := by
  obtain ⟨a, f, hr, _⟩ := h
  rw [hL] at hr
  exact send_full p n cap fn fs cs c d a w hr hc h1 hn
theorem rs_empty (c d : Nat) (fn : Fn) (fs cs : Array Value) (w : World) (h : RS S R c d [] w) (hc : 1 ≤ c) :
    Calls Try.prog 39 #[.pointer (some ⟨R, 0, none⟩), .func fn fs cs] w fun e w' => e = .returned (.tuple #[.slice none 0 0, .int .i64 12]) ∧ w' = w := by
  obtain ⟨a, f, hr, _⟩ := h
  exact recv_empty fn fs cs c d a w hr hc
theorem rs_next_empty (c d : Nat) (fn : Fn) (fs cs : Array Value) (w : World) (h : RS S R c d [] w) (hc : 1 ≤ c) :
    Calls Try.prog 46 #[.pointer (some ⟨R, 0, none⟩), .func fn fs cs] w fun e w' => e = .returned (.int .i64 0) ∧ w' = w := by
  obtain ⟨a, f, hr, _⟩ := h
  exact next_empty fn fs cs c d a w hr hc
theorem new_rs (c d : Nat) (w : World) (hc : 1 ≤ c) (hc8 : c ≤ 8) (hd : 1 ≤ d) (hd8 : d ≤ 8) :
    Calls Try.prog 32 #[.int .i64 c, .int .i64 d] w fun e w' => ∃ R, e = .returned (.tuple #[.pointer (some ⟨R, 0, none⟩), .int .i64 0]) ∧ IsRing w' R c d 0 0 ∧ w.heap.size ≤ R ∧ Below w.heap.size w w' := by
  refine (new_ok c d w hc hc8 hd hd8).mono ?_
  rintro e w' ⟨rfl, rfl⟩
  exact ⟨_, rfl, bk_new w _, Nat.le_refl _, (Below.refl _ _).alloc (Nat.le_refl _) _⟩
end Go.Proofs.Ytofkgceenppdbaa
