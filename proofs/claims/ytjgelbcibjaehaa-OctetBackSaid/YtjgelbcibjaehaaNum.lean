/- Helper text of this seat (Num): contracts of functions of the given program and of its references, each told by its theorem. -/
import Derived.Test.YtjgelbcibjaehaaTxt
import Derived.Laws.IdiomStrings
namespace Go.Proofs.Ytjgelbcibjaehaa
open Go.RowKit
set_option linter.unusedVariables false
set_option linter.unusedSimpArgs false
theorem num_nil (n : Int) (w : World) :
    Calls Try.prog 12 #[.pointer none, .int .i64 n] w fun e w' => e = .returned (.int .u32 0) ∧ w' = w := by
  go_enter Try.func12, Try.ntmps12
  go_wp2_with (go_at_call 13; refine (fine_nil _).mono ?_; rintro e w1 ⟨rfl, rfl⟩)
  go_ret
  exact ⟨rfl, rfl⟩
theorem num_not (g : Nat) (s : ByteArray) (n : Int) (w : World) (h : IsR w g s false) :
    Calls Try.prog 12 #[.pointer (some ⟨g, 0, none⟩), .int .i64 n] w fun e w' => e = .returned (.int .u32 0) ∧ w' = w := by
  go_enter Try.func12, Try.ntmps12
  go_wp2_with (go_at_call 13; refine (fine_any _ _ _ _ h).mono ?_; rintro e w1 ⟨rfl, rfl⟩)
  go_ret
  exact ⟨rfl, rfl⟩
/-- the number whose bytes these are -/
def be (l : List UInt8) : Int := l.foldl (fun a c => a * 256 + (c.toNat : Int)) 0
theorem be_snoc (l : List UInt8) (c : UInt8) : be (l ++ [c]) = be l * 256 + (c.toNat : Int) := by simp [be]
theorem fold_bound : ∀ (l : List UInt8) (a : Int), 0 ≤ a → 0 ≤ l.foldl (fun a c => a * 256 + (c.toNat : Int)) a ∧ l.foldl (fun a c => a * 256 + (c.toNat : Int)) a < (a + 1) * 256 ^ l.length
  | [], a, h => by simp; omega
  | c :: l, a, h => by
    have hc := c.toNat_lt
    have ih := fold_bound l (a * 256 + (c.toNat : Int)) (by omega)
    refine ⟨ih.1, Int.lt_of_lt_of_le ih.2 ?_⟩
    have h2 : (a * 256 + (c.toNat : Int) + 1) ≤ (a + 1) * 256 := by omega
    have h3 : (0 : Int) ≤ 256 ^ l.length := Int.pow_nonneg (by omega)
    have h4 := Int.mul_le_mul_of_nonneg_right h2 h3
    have h5 : (a + 1) * 256 ^ (c :: l).length = (a + 1) * 256 * 256 ^ l.length := by
      rw [List.length_cons, Int.pow_succ, Int.mul_assoc, Int.mul_comm 256]
    rw [h5]
    exact h4
theorem be_bound (l : List UInt8) : 0 ≤ be l ∧ be l < 256 ^ l.length := by
  have h := fold_bound l 0 (by omega)
  simp only [Int.zero_add, Int.one_mul] at h
  exact h
theorem wraps_u32 (n : Int) (h₀ : 0 ≤ n) (h₁ : n < 2 ^ 32) : IntKind.u32.wrap n = n := by rw [IntKind.wrap_u32]; omega
theorem or256 {x c : Int} (h0 : 0 ≤ x) (h1 : x < 16777216) (c0 : 0 ≤ c) (c1 : c < 256) : bits .or .u32 (x * 256) c = x * 256 + c :=
  bits_join .u32 32 (by decide) wraps_u32 8 (x * 256) c (by omega) (by omega) (by omega) c0 (by omega) (by omega)
theorem be_small {l : List UInt8} {k : Nat} (hl : l.length ≤ k) (hk : k ≤ 3) : be l < 16777216 := by
  have h := (be_bound l).2
  have h4 : l.length = 0 ∨ l.length = 1 ∨ l.length = 2 ∨ l.length = 3 := by omega
  rcases h4 with h4 | h4 | h4 | h4 <;> rw [h4] at h <;> omega
theorem take_snoc (s : ByteArray) (k : Nat) (h : k < s.size) : s.data.toList.take (k + 1) = s.data.toList.take k ++ [s.data.toList.getD k 0] := by
  have hk : k < s.data.toList.length := by simpa using h
  rw [List.take_succ_eq_append_getElem hk, List.getD_eq_getElem?_getD, List.getElem?_eq_getElem hk]
  rfl
theorem ext_size (s : ByteArray) (n : Nat) (hn : n ≤ s.size) : (s.extract 0 n).data.size = n := by
  have h2 : (s.extract 0 n).data.size = (s.extract 0 n).size := rfl
  rw [h2, ByteArray.size_extract]
  omega
theorem ext_at (s : ByteArray) (n j : Nat) (hj : j < n) (hn : n ≤ s.size) : (s.data.toList.getD j 0) = (s.extract 0 n).data[j]'(by rw [ext_size s n hn]; exact hj) := by
  have hk : j < s.data.toList.length := by simp; have : s.data.size = s.size := rfl; omega
  rw [List.getD_eq_getElem?_getD, List.getElem?_eq_getElem hk]
  simp [ByteArray.data_extract]
set_option maxHeartbeats 1000000 in
theorem num_bad (g : Nat) (s : ByteArray) (n : Int) (w : World) (h : IsR w g s true) (hs : s.size ≤ 140737488351232) (hn : n < 1 ∨ 4 < n ∨ s.size < n) :
    Calls Try.prog 12 #[.pointer (some ⟨g, 0, none⟩), .int .i64 n] w fun e w' => e = .returned (.int .u32 0) ∧ IsR w' g s false ∧ Kept g w w' := by
  have hmf : ∀ (fn : Fn) (first cap : Array Value) (w : World), (Instr.makeFunc fn first cap).run Try.prog w = .ok (.func fn first cap) w := fun _ _ _ _ => rfl
  have hcv := fun (w : World) (s : ByteArray) => run_bytes_of_string (P := Try.prog) w 9 49 5 s Try.underlying9 Try.underlying49 Try.underlying5
  have hb : (n < 1 ∨ 4 < n) ∨ (1 ≤ n ∧ n ≤ 4 ∧ s.size < n) := by omega
  rcases hb with (h1 | h1) | ⟨h1, h2, h3⟩
  all_goals
    go_enter Try.func12, Try.ntmps12
    go_wp2_with (first | (go_at_call 13; refine (fine_any _ _ _ _ h).mono ?_; rintro e w1 ⟨rfl, rfl⟩) | (go_at_call 19; refine (take_bad _ _ _ _ h hs (by omega)).mono ?_; rintro e w1 ⟨rfl, rfl⟩))
    go_rounds 1
    go_returns
    exact ⟨rfl, bk_alloc (h.set1 false) _, (((Kept.refl _ _).setCell 1 _).then_below (by go_grown))⟩
set_option maxHeartbeats 1000000 in
theorem num_ok (g : Nat) (s : ByteArray) (n : Nat) (w : World) (h : IsR w g s true) (hs : s.size ≤ 140737488351232) (hn : 1 ≤ n) (hn4 : n ≤ 4) (hns : n ≤ s.size) :
    Calls Try.prog 12 #[.pointer (some ⟨g, 0, none⟩), .int .i64 n] w fun e w' => e = .returned (.int .u32 (be (s.data.toList.take n))) ∧ IsR w' g (s.extract n s.size) true ∧ Kept g w w' := by
  have hmf : ∀ (fn : Fn) (first cap : Array Value) (w : World), (Instr.makeFunc fn first cap).run Try.prog w = .ok (.func fn first cap) w := fun _ _ _ _ => rfl
  have hcv := fun (w : World) (s : ByteArray) => run_bytes_of_string (P := Try.prog) w 9 49 5 s Try.underlying9 Try.underlying49 Try.underlying5
  go_enter Try.func12, Try.ntmps12
  go_wp2_with (first | (go_at_call 13; refine (fine_any _ _ _ _ h).mono ?_; rintro e w1 ⟨rfl, rfl⟩) | (go_at_call 19; refine (take_ok _ _ n _ h hs hns).mono ?_; rintro e w1 ⟨rfl, rfl⟩))
  refine wp_abs (fun W => (∀ j, j < n → W.cell? ⟨w1.heap.size, j, none⟩ = some (.int .u8 ((s.data.toList.getD j 0).toNat : Int))) ∧ IsR W g (s.extract n s.size) true ∧ Kept g w1 W) ⟨?_, bk_alloc (h.set0 _) _, (((Kept.refl _ _).setCell 0 _).then_below (by go_grown))⟩ ?_
  · intro j hj
    have hsz : (s.extract 0 n).data.size = n := by
      exact ext_size s n hns
    have hat := bytesRow_at (s.extract 0 n) (grownCap (w1.setCell ⟨g, 0, none⟩ (.string (s.extract n s.size))) n 0 5) j (by omega)
    have hnew := bk_new (w1.setCell ⟨g, 0, none⟩ (.string (s.extract n s.size))) (.cells (bytesRow (s.extract 0 n) (grownCap (w1.setCell ⟨g, 0, none⟩ (.string (s.extract n s.size))) n 0 5)) 5
      ((bytesRow (s.extract 0 n) (grownCap (w1.setCell ⟨g, 0, none⟩ (.string (s.extract n s.size))) n 0 5)).size, (bytesRow (s.extract 0 n) (grownCap (w1.setCell ⟨g, 0, none⟩ (.string (s.extract n s.size))) n 0 5)).size + 1))
    rw [World.size_setCell] at hnew
    refine (bk_cell (w := World.drew _) hnew j).trans (hat.trans ?_)
    rw [ext_at s n j hj hns]
  · rintro W ⟨hc, hR, hK⟩
    have HC := Lib.hid hc
    have HR := Lib.hid hR
    have HK := Lib.hid hK
    clear hc hR hK hcv
    go_loop [6, 25] (fun x i => ∃ k : Nat, k ≤ n ∧ i = .int .i64 k ∧ x = .int .u32 (be (s.data.toList.take k))) (fun _ i => n - (intOf i).toNat)
    case atStart => exact ⟨0, Nat.zero_le _, rfl, rfl⟩
    case round =>
      obtain ⟨k, hk, rfl, rfl⟩ := hrel
      by_cases hlt : k < n
      · have hck := HC.out k hlt
        have hb := be_bound (s.data.toList.take k)
        have hl : (s.data.toList.take k).length ≤ k := List.length_take_le _ _
        have hb2 : be (s.data.toList.take k) < 16777216 := be_small hl (by omega)
        obtain ⟨x, hx⟩ : ∃ x, be (s.data.toList.take k) = x := ⟨_, rfl⟩
        obtain ⟨c, hcc⟩ : ∃ c : Nat, (s.data.toList.getD k 0).toNat = c := ⟨_, rfl⟩
        rw [hcc] at hck
        rw [hx] at hb hb2 ⊢
        have HX := Lib.hid hx
        have HCC := Lib.hid hcc
        clear hx hcc
        have hc256 : (c : Int) < 256 := by have := (s.data.toList.getD k 0).toNat_lt; have := HCC.out; omega
        have hor := or256 hb.1 hb2 (show (0 : Int) ≤ c by omega) hc256
        go_wp2
        refine ⟨⟨k + 1, by omega, by go_num, ?_⟩, by simp [intOf]; omega⟩
        rw [take_snoc s k (by omega), be_snoc, HX.out, HCC.out]
      · have : k = n := by omega
        subst this
        go_wp2
        go_ret
        exact ⟨rfl, HR.out, HK.out⟩
end Go.Proofs.Ytjgelbcibjaehaa
