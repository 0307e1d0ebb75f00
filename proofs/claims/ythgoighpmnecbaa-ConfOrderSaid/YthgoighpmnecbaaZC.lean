/- Helper text of this seat (ZC): contracts of functions of the given program and of its references, and the laws' plain parts, each told by its theorem. Conditions: as each theorem names them. -/
import Derived.Test.YthgoighpmnecbaaZA
import Derived.Test.YthgoighpmnecbaaZB
import Derived.Lib.Hide
import Derived.Deep.QuietTactic
import Derived.BigQuiet
import Derived.Laws.IdiomStrings
namespace Go.Proofs.Ythgoighpmnecbaa
open Go.RowKit
set_option linter.unusedVariables false
set_option linter.unusedSimpArgs false
/-- a reader in memory -/
def IsR (w : World) (g : Nat) (s : ByteArray) (f : Bool) : Prop := w.heap[g]? = some (.cells #[.string s, .bool f] 102 (0, 0))
theorem IsR.cells {w : World} {g : Nat} {s : ByteArray} {f : Bool} (h : IsR w g s f) : w.cell? ⟨g, 0, none⟩ = some (.string s) ∧ w.cell? ⟨g, 1, none⟩ = some (.bool f) ∧ w.frozen? ⟨g, 0, none⟩ = false ∧ w.frozen? ⟨g, 1, none⟩ = false :=
  ⟨(bk_cell h 0).trans rfl, (bk_cell h 1).trans rfl, bk_frozen h 0, bk_frozen h 1⟩
theorem IsR.set0 {w : World} {g : Nat} {s : ByteArray} {f : Bool} (h : IsR w g s f) (s' : ByteArray) : IsR (w.setCell ⟨g, 0, none⟩ (.string s')) g s' f := bk_set h 0 _
theorem IsR.set1 {w : World} {g : Nat} {s : ByteArray} {f : Bool} (h : IsR w g s f) (f' : Bool) : IsR (w.setCell ⟨g, 1, none⟩ (.bool f')) g s f' := bk_set h 1 _
theorem fine_nil (w : World) :
    Calls Try.prog 52 #[.pointer none] w fun e w' => e = .returned (.bool false) ∧ w' = w := by
  go_enter Try.func52, Try.ntmps52
  go_wp2
  go_ret
  exact ⟨rfl, rfl⟩
theorem fine_any (g : Nat) (s : ByteArray) (f : Bool) (w : World) (h : IsR w g s f) :
    Calls Try.prog 52 #[.pointer (some ⟨g, 0, none⟩)] w fun e w' => e = .returned (.bool f) ∧ w' = w := by
  obtain ⟨h0, h1, h2, h3⟩ := h.cells
  go_enter Try.func52, Try.ntmps52
  go_wp2
  go_ret
  exact ⟨rfl, rfl⟩
theorem left_nil (w : World) :
    Calls Try.prog 53 #[.pointer none] w fun e w' => e = .returned (.int .i64 0) ∧ w' = w := by
  go_enter Try.func53, Try.ntmps53
  go_wp2_with (go_at_call 52; refine (fine_nil _).mono ?_; rintro e w1 ⟨rfl, rfl⟩)
  go_ret
  exact ⟨rfl, rfl⟩
def leftOf (s : ByteArray) (f : Bool) : Int := if f then s.size else 0
theorem left_any (g : Nat) (s : ByteArray) (f : Bool) (w : World) (h : IsR w g s f) :
    Calls Try.prog 53 #[.pointer (some ⟨g, 0, none⟩)] w fun e w' => e = .returned (.int .i64 (leftOf s f)) ∧ w' = w := by
  obtain ⟨h0, h1, h2, h3⟩ := h.cells
  cases f
  all_goals
    go_enter Try.func53, Try.ntmps53
    go_wp2_with (go_at_call 52; refine (fine_any _ _ _ _ h).mono ?_; rintro e w1 ⟨rfl, rfl⟩)
    go_ret
    exact ⟨rfl, rfl⟩
theorem take_bad (g : Nat) (s : ByteArray) (n : Int) (w : World) (h : IsR w g s true) (hs : s.size ≤ 140737488351232) (hn : n < 0 ∨ s.size < n) :
    Calls Try.prog 63 #[.pointer (some ⟨g, 0, none⟩), .int .i64 n] w fun e w' => e = .returned (.string ByteArray.empty) ∧ w' = w.setCell ⟨g, 1, none⟩ (.bool false) := by
  obtain ⟨h0, h1, h2, h3⟩ := h.cells
  have hl : leftOf s true = s.size := rfl
  rcases hn with hn | hn
  · go_enter Try.func63, Try.ntmps63
    go_wp2_with (go_at_call 53; refine (left_any _ _ _ _ h).mono ?_; rintro e w1 ⟨rfl, rfl⟩)
    go_ret
    exact ⟨rfl, rfl⟩
  · have hn0 : ¬ n < 0 := by omega
    go_enter Try.func63, Try.ntmps63
    go_wp2_with (go_at_call 53; refine (left_any _ _ _ _ h).mono ?_; rintro e w1 ⟨rfl, rfl⟩)
    go_ret
    exact ⟨rfl, rfl⟩
theorem take_ok (g : Nat) (s : ByteArray) (n : Nat) (w : World) (h : IsR w g s true) (hs : s.size ≤ 140737488351232) (hn : n ≤ s.size) :
    Calls Try.prog 63 #[.pointer (some ⟨g, 0, none⟩), .int .i64 n] w fun e w' => e = .returned (.string (s.extract 0 n)) ∧ w' = w.setCell ⟨g, 0, none⟩ (.string (s.extract n s.size)) := by
  obtain ⟨h0, h1, h2, h3⟩ := h.cells
  have hl : leftOf s true = s.size := rfl
  have hn1 : ¬ (n : Int) < 0 := by omega
  have hn2 : ¬ (s.size : Int) < n := by omega
  go_enter Try.func63, Try.ntmps63
  go_wp2_with (go_at_call 53; refine (left_any _ _ _ _ h).mono ?_; rintro e w1 ⟨rfl, rfl⟩)
  go_ret
  exact ⟨rfl, rfl⟩
end Go.Proofs.Ythgoighpmnecbaa
namespace Go.Proofs.Ythgoighpmnecbaa
open Go.RowKit
set_option linter.unusedVariables false
set_option linter.unusedSimpArgs false
def isPre (s p : ByteArray) : Bool := decide (p.size ≤ s.size) && (s.extract 0 p.size).toList == p.toList
theorem hasPre_any (s p : ByteArray) (w : World) (hs : s.size ≤ 140737488351232) (hp : p.size ≤ 140737488351232) :
    Calls Try.prog 68 #[.string s, .string p] w fun e w' => e = .returned (.bool (isPre s p)) ∧ w' = w := by
  by_cases h : p.size ≤ s.size
  · have e : isPre s p = ((s.extract 0 p.size).toList == p.toList) := by simp [isPre, h]
    have E := Lib.hid e
    clear e
    have hd : decide ((p.size : Int) ≤ s.size) = true := by simp; omega
    have hd2 : (p.size : Int) ≤ s.size := by omega
    go_enter Try.func68, Try.ntmps68
    go_wp2
    go_ret
    exact ⟨by rw [E.out]; rfl, rfl⟩
  · have e : isPre s p = false := by simp [isPre, h]
    have E := Lib.hid e
    clear e
    have hd : decide ((p.size : Int) ≤ s.size) = false := by simp; omega
    have hd2 : ¬ (p.size : Int) ≤ s.size := by omega
    go_enter Try.func68, Try.ntmps68
    go_wp2
    go_ret
    exact ⟨by rw [E.out]; rfl, rfl⟩
/-- what is left behind a prefix -/
def cutS (s p : ByteArray) : ByteArray := if isPre s p then s.extract p.size s.size else s
theorem pre_le {s p : ByteArray} (h : isPre s p = true) : p.size ≤ s.size := by
  simp [isPre] at h
  exact h.1
theorem cutl_any (s p : ByteArray) (w : World) (hs : s.size ≤ 140737488351232) (hp : p.size ≤ 140737488351232) :
    Calls Try.prog 67 #[.string s, .string p] w fun e w' => e = .returned (.tuple #[.string (cutS s p), .bool (isPre s p)]) ∧ w' = w := by
  cases h : isPre s p
  · have E := Lib.hid (show cutS s p = s by simp [cutS, h])
    go_enter Try.func67, Try.ntmps67
    go_wp2_with (go_at_call 68; refine (hasPre_any _ _ _ hs hp).mono ?_; rintro e w1 ⟨rfl, rfl⟩)
    go_ret2
    exact ⟨by rw [E.out]; rfl, rfl⟩
  · have E := Lib.hid (show cutS s p = s.extract p.size s.size by simp [cutS, h])
    have hle := pre_le h
    go_enter Try.func67, Try.ntmps67
    go_wp2_with (go_at_call 68; refine (hasPre_any _ _ _ hs hp).mono ?_; rintro e w1 ⟨rfl, rfl⟩)
    go_ret2
    exact ⟨by rw [E.out]; rfl, rfl⟩
theorem cut_any (s p : ByteArray) (w : World) (hs : s.size ≤ 140737488351232) (hp : p.size ≤ 140737488351232) :
    Calls Try.prog 62 #[.string s, .string p] w fun e w' => e = .returned (.tuple #[.string (cutS s p), .bool (isPre s p)]) ∧ w' = w := by
  go_enter Try.func62, Try.ntmps62
  go_wp2_with (go_at_call 67; refine (cutl_any _ _ _ hs hp).mono ?_; rintro e w1 ⟨rfl, rfl⟩)
  go_ret2
  exact ⟨rfl, rfl⟩
theorem text_nil (p : ByteArray) (w : World) :
    Calls Try.prog 43 #[.pointer none, .string p] w fun e w' => e = .returned (.bool false) ∧ w' = w := by
  go_enter Try.func43, Try.ntmps43
  go_wp2_with (go_at_call 52; refine (fine_nil _).mono ?_; rintro e w1 ⟨rfl, rfl⟩)
  go_ret
  exact ⟨rfl, rfl⟩
/-- what a reader holds behind Text -/
def txS (s : ByteArray) (f : Bool) (p : ByteArray) : ByteArray := if f then cutS s p else s
def txF (s : ByteArray) (f : Bool) (p : ByteArray) : Bool := f && isPre s p
theorem text_any (g : Nat) (s : ByteArray) (f : Bool) (p : ByteArray) (w : World) (h : IsR w g s f) (hs : s.size ≤ 140737488351232) (hp : p.size ≤ 140737488351232) :
    Calls Try.prog 43 #[.pointer (some ⟨g, 0, none⟩), .string p] w fun e w' => e = .returned (.bool (txF s f p)) ∧ IsR w' g (txS s f p) (txF s f p) ∧ Kept g w w' := by
  obtain ⟨h0, h1, h2, h3⟩ := h.cells
  cases f
  · go_enter Try.func43, Try.ntmps43
    go_wp2_with (go_at_call 52; refine (fine_any _ _ _ _ h).mono ?_; rintro e w1 ⟨rfl, rfl⟩)
    go_ret
    exact ⟨rfl, h, Kept.refl _ _⟩
  · go_enter Try.func43, Try.ntmps43
    go_wp2_with (first | (go_at_call 52; refine (fine_any _ _ _ _ h).mono ?_; rintro e w1 ⟨rfl, rfl⟩) | (go_at_call 62; refine (cut_any _ _ _ hs hp).mono ?_; rintro e w1 ⟨rfl, rfl⟩))
    go_ret
    exact ⟨rfl, (h.set0 _).set1 _, ((Kept.refl _ _).setCell _ _).setCell _ _⟩
end Go.Proofs.Ythgoighpmnecbaa
namespace Go.Proofs.Ythgoighpmnecbaa
open Go.RowKit
set_option linter.unusedVariables false
set_option linter.unusedSimpArgs false
theorem num_nil (n : Int) (w : World) :
    Calls Try.prog 45 #[.pointer none, .int .i64 n] w fun e w' => e = .returned (.int .u32 0) ∧ w' = w := by
  go_enter Try.func45, Try.ntmps45
  go_wp2_with (go_at_call 52; refine (fine_nil _).mono ?_; rintro e w1 ⟨rfl, rfl⟩)
  go_ret
  exact ⟨rfl, rfl⟩
theorem num_not (g : Nat) (s : ByteArray) (n : Int) (w : World) (h : IsR w g s false) :
    Calls Try.prog 45 #[.pointer (some ⟨g, 0, none⟩), .int .i64 n] w fun e w' => e = .returned (.int .u32 0) ∧ w' = w := by
  go_enter Try.func45, Try.ntmps45
  go_wp2_with (go_at_call 52; refine (fine_any _ _ _ _ h).mono ?_; rintro e w1 ⟨rfl, rfl⟩)
  go_ret
  exact ⟨rfl, rfl⟩
/-- the number whose bytes these are -/
def be (l : List UInt8) : Int := l.foldl (fun a c => a * 256 + (c.toNat : Int)) 0
theorem be_snoc (l : List UInt8) (c : UInt8) : be (l ++ [c]) = be l * 256 + (c.toNat : Int) := by simp [be]
theorem fold_bound : ∀ (l : List UInt8) (a : Int), 0 ≤ a → 0 ≤ l.foldl (fun a c => a * 256 + (c.toNat : Int)) a ∧ l.foldl (fun a c => a * 256 + (c.toNat : Int)) a < (a + 1) * 256 ^ l.length
  | [], a, h => by simp; omega
  | c :: l, a, h => by
    have hc := c.toNat_lt
    have ih := fold_bound l (a * 256 + (c.toNat : Int)) (by omega)
    refine ⟨ih.1, Int.lt_of_lt_of_le ih.2 ?_⟩
    have h2 : (a * 256 + (c.toNat : Int) + 1) ≤ (a + 1) * 256 := by omega
    have h3 : (0 : Int) ≤ 256 ^ l.length := Int.pow_nonneg (by omega)
    have h4 := Int.mul_le_mul_of_nonneg_right h2 h3
    have h5 : (a + 1) * 256 ^ (c :: l).length = (a + 1) * 256 * 256 ^ l.length := by
      rw [List.length_cons, Int.pow_succ, Int.mul_assoc, Int.mul_comm 256]
    rw [h5]
    exact h4
theorem be_bound (l : List UInt8) : 0 ≤ be l ∧ be l < 256 ^ l.length := by
  have h := fold_bound l 0 (by omega)
  simp only [Int.zero_add, Int.one_mul] at h
  exact h
theorem wraps_u32 (n : Int) (h₀ : 0 ≤ n) (h₁ : n < 2 ^ 32) : IntKind.u32.wrap n = n := by rw [IntKind.wrap_u32]; omega
theorem or256 {x c : Int} (h0 : 0 ≤ x) (h1 : x < 16777216) (c0 : 0 ≤ c) (c1 : c < 256) : bits .or .u32 (x * 256) c = x * 256 + c :=
  bits_join .u32 32 (by decide) wraps_u32 8 (x * 256) c (by omega) (by omega) (by omega) c0 (by omega) (by omega)
theorem be_small {l : List UInt8} {k : Nat} (hl : l.length ≤ k) (hk : k ≤ 3) : be l < 16777216 := by
  have h := (be_bound l).2
  have h4 : l.length = 0 ∨ l.length = 1 ∨ l.length = 2 ∨ l.length = 3 := by omega
  rcases h4 with h4 | h4 | h4 | h4 <;> rw [h4] at h <;> omega
theorem take_snoc (s : ByteArray) (k : Nat) (h : k < s.size) : s.data.toList.take (k + 1) = s.data.toList.take k ++ [s.data.toList.getD k 0] := by
  have hk : k < s.data.toList.length := by simpa using h
  rw [List.take_succ_eq_append_getElem hk, List.getD_eq_getElem?_getD, List.getElem?_eq_getElem hk]
  rfl
theorem ext_size (s : ByteArray) (n : Nat) (hn : n ≤ s.size) : (s.extract 0 n).data.size = n := by
  have h2 : (s.extract 0 n).data.size = (s.extract 0 n).size := rfl
  rw [h2, ByteArray.size_extract]
  omega
theorem ext_at (s : ByteArray) (n j : Nat) (hj : j < n) (hn : n ≤ s.size) : (s.data.toList.getD j 0) = (s.extract 0 n).data[j]'(by rw [ext_size s n hn]; exact hj) := by
  have hk : j < s.data.toList.length := by simp; have : s.data.size = s.size := rfl; omega
  rw [List.getD_eq_getElem?_getD, List.getElem?_eq_getElem hk]
  simp [ByteArray.data_extract]
set_option maxHeartbeats 1000000 in
theorem num_bad (g : Nat) (s : ByteArray) (n : Int) (w : World) (h : IsR w g s true) (hs : s.size ≤ 140737488351232) (hn : n < 1 ∨ 4 < n ∨ s.size < n) :
    Calls Try.prog 45 #[.pointer (some ⟨g, 0, none⟩), .int .i64 n] w fun e w' => e = .returned (.int .u32 0) ∧ IsR w' g s false ∧ Kept g w w' := by
  have hmf : ∀ (fn : Fn) (first cap : Array Value) (w : World), (Instr.makeFunc fn first cap).run Try.prog w = .ok (.func fn first cap) w := fun _ _ _ _ => rfl
  have hcv := fun (w : World) (s : ByteArray) => run_bytes_of_string (P := Try.prog) w 9 49 5 s Try.underlying9 Try.underlying49 Try.underlying5
  have hb : (n < 1 ∨ 4 < n) ∨ (1 ≤ n ∧ n ≤ 4 ∧ s.size < n) := by omega
  rcases hb with (h1 | h1) | ⟨h1, h2, h3⟩
  all_goals
    go_enter Try.func45, Try.ntmps45
    go_wp2_with (first | (go_at_call 52; refine (fine_any _ _ _ _ h).mono ?_; rintro e w1 ⟨rfl, rfl⟩) | (go_at_call 63; refine (take_bad _ _ _ _ h hs (by omega)).mono ?_; rintro e w1 ⟨rfl, rfl⟩))
    go_rounds 1
    go_returns
    exact ⟨rfl, bk_alloc (h.set1 false) _, (((Kept.refl _ _).setCell 1 _).then_below (by go_grown))⟩
set_option maxHeartbeats 1000000 in
theorem num_ok (g : Nat) (s : ByteArray) (n : Nat) (w : World) (h : IsR w g s true) (hs : s.size ≤ 140737488351232) (hn : 1 ≤ n) (hn4 : n ≤ 4) (hns : n ≤ s.size) :
    Calls Try.prog 45 #[.pointer (some ⟨g, 0, none⟩), .int .i64 n] w fun e w' => e = .returned (.int .u32 (be (s.data.toList.take n))) ∧ IsR w' g (s.extract n s.size) true ∧ Kept g w w' := by
  have hmf : ∀ (fn : Fn) (first cap : Array Value) (w : World), (Instr.makeFunc fn first cap).run Try.prog w = .ok (.func fn first cap) w := fun _ _ _ _ => rfl
  have hcv := fun (w : World) (s : ByteArray) => run_bytes_of_string (P := Try.prog) w 9 49 5 s Try.underlying9 Try.underlying49 Try.underlying5
  go_enter Try.func45, Try.ntmps45
  go_wp2_with (first | (go_at_call 52; refine (fine_any _ _ _ _ h).mono ?_; rintro e w1 ⟨rfl, rfl⟩) | (go_at_call 63; refine (take_ok _ _ n _ h hs hns).mono ?_; rintro e w1 ⟨rfl, rfl⟩))
  refine wp_abs (fun W => (∀ j, j < n → W.cell? ⟨w1.heap.size, j, none⟩ = some (.int .u8 ((s.data.toList.getD j 0).toNat : Int))) ∧ IsR W g (s.extract n s.size) true ∧ Kept g w1 W) ⟨?_, bk_alloc (h.set0 _) _, (((Kept.refl _ _).setCell 0 _).then_below (by go_grown))⟩ ?_
  · intro j hj
    have hsz : (s.extract 0 n).data.size = n := by
      exact ext_size s n hns
    have hat := bytesRow_at (s.extract 0 n) (grownCap (w1.setCell ⟨g, 0, none⟩ (.string (s.extract n s.size))) n 0 5) j (by omega)
    have hnew := bk_new (w1.setCell ⟨g, 0, none⟩ (.string (s.extract n s.size))) (.cells (bytesRow (s.extract 0 n) (grownCap (w1.setCell ⟨g, 0, none⟩ (.string (s.extract n s.size))) n 0 5)) 5
      ((bytesRow (s.extract 0 n) (grownCap (w1.setCell ⟨g, 0, none⟩ (.string (s.extract n s.size))) n 0 5)).size, (bytesRow (s.extract 0 n) (grownCap (w1.setCell ⟨g, 0, none⟩ (.string (s.extract n s.size))) n 0 5)).size + 1))
    rw [World.size_setCell] at hnew
    refine (bk_cell (w := World.drew _) hnew j).trans (hat.trans ?_)
    rw [ext_at s n j hj hns]
  · rintro W ⟨hc, hR, hK⟩
    have HC := Lib.hid hc
    have HR := Lib.hid hR
    have HK := Lib.hid hK
    clear hc hR hK hcv
    go_loop [6, 25] (fun x i => ∃ k : Nat, k ≤ n ∧ i = .int .i64 k ∧ x = .int .u32 (be (s.data.toList.take k))) (fun _ i => n - (intOf i).toNat)
    case atStart => exact ⟨0, Nat.zero_le _, rfl, rfl⟩
    case round =>
      obtain ⟨k, hk, rfl, rfl⟩ := hrel
      by_cases hlt : k < n
      · have hck := HC.out k hlt
        have hb := be_bound (s.data.toList.take k)
        have hl : (s.data.toList.take k).length ≤ k := List.length_take_le _ _
        have hb2 : be (s.data.toList.take k) < 16777216 := be_small hl (by omega)
        obtain ⟨x, hx⟩ : ∃ x, be (s.data.toList.take k) = x := ⟨_, rfl⟩
        obtain ⟨c, hcc⟩ : ∃ c : Nat, (s.data.toList.getD k 0).toNat = c := ⟨_, rfl⟩
        rw [hcc] at hck
        rw [hx] at hb hb2 ⊢
        have HX := Lib.hid hx
        have HCC := Lib.hid hcc
        clear hx hcc
        have hc256 : (c : Int) < 256 := by have := (s.data.toList.getD k 0).toNat_lt; have := HCC.out; omega
        have hor := or256 hb.1 hb2 (show (0 : Int) ≤ c by omega) hc256
        go_wp2
        refine ⟨⟨k + 1, by omega, by go_num, ?_⟩, by simp [intOf]; omega⟩
        rw [take_snoc s k (by omega), be_snoc, HX.out, HCC.out]
      · have : k = n := by omega
        subst this
        go_wp2
        go_ret
        exact ⟨rfl, HR.out, HK.out⟩
end Go.Proofs.Ythgoighpmnecbaa
namespace Go.Proofs.Ythgoighpmnecbaa
open Go.RowKit
set_option linter.unusedVariables false
set_option linter.unusedSimpArgs false
theorem new_any (s : ByteArray) (w : World) :
    Calls Try.prog 41 #[.string s] w fun e w' => ∃ g : Nat, e = .returned (.pointer (some ⟨g, 0, none⟩)) ∧ IsR w' g s true ∧ w.heap.size ≤ g ∧ Below w.heap.size w w' := by
  go_enter Try.func41, Try.ntmps41
  go_wp2
  go_ret
  exact ⟨_, rfl, bk_new _ _, Nat.le_refl _, by go_grown⟩
/-- is the next number there? -/
def nOk (s : ByteArray) (f : Bool) (n : Int) : Bool := f && decide (1 ≤ n) && decide (n ≤ 4) && decide (n ≤ s.size)
def nV (s : ByteArray) (f : Bool) (n : Int) : Int := if nOk s f n then be (s.data.toList.take n.toNat) else 0
def nS (s : ByteArray) (f : Bool) (n : Int) : ByteArray := if nOk s f n then s.extract n.toNat s.size else s
theorem num_any (g : Nat) (s : ByteArray) (f : Bool) (n : Int) (w : World) (h : IsR w g s f) (hs : s.size ≤ 140737488351232) :
    Calls Try.prog 45 #[.pointer (some ⟨g, 0, none⟩), .int .i64 n] w fun e w' => e = .returned (.int .u32 (nV s f n)) ∧ IsR w' g (nS s f n) (nOk s f n) ∧ Kept g w w' := by
  cases f
  · refine (num_not g s n w h).mono ?_
    rintro e w' ⟨rfl, rfl⟩
    exact ⟨by simp [nV, nOk], by simpa [nS, nOk] using h, Kept.refl g w'⟩
  · by_cases hn : 1 ≤ n ∧ n ≤ 4 ∧ n ≤ s.size
    · obtain ⟨k, rfl⟩ : ∃ k : Nat, n = k := ⟨n.toNat, by omega⟩
      have hk : nOk s true k = true := by simp [nOk]; omega
      refine (num_ok g s k w h hs (by omega) (by omega) (by omega)).mono ?_
      rintro e w' ⟨rfl, h2, h3⟩
      exact ⟨by simp [nV, hk], by simpa [nS, hk] using h2, h3⟩
    · have hk : nOk s true n = false := by simp [nOk]; omega
      refine (num_bad g s n w h hs (by omega)).mono ?_
      rintro e w' ⟨rfl, h2, h3⟩
      exact ⟨by simp [nV, hk], by simpa [nS, hk] using h2, h3⟩
theorem IsR.below {w w1 : World} {g : Nat} {s : ByteArray} {f : Bool} (h : IsR w g s f) (hb : Below w.heap.size w w1) : IsR w1 g s f := bk_below h hb
end Go.Proofs.Ythgoighpmnecbaa
namespace Go.Proofs.Ythgoighpmnecbaa
open Go.RowKit
set_option linter.unusedVariables false
set_option linter.unusedSimpArgs false
/-- a reader's state: what is left, and whether all was there -/
structure St where
  t : ByteArray
  f : Bool
def nx (s : St) (n : Int) : St := ⟨nS s.t s.f n, nOk s.t s.f n⟩
def nv (s : St) (n : Int) : Int := nV s.t s.f n
/-- behind one element -/
def nx2 (s : St) (a b : Int) : St := nx (nx s a) b
def nx4 (s : St) : St := nx (nx (nx (nx s 1) 1) 1) 1
/-- the elements read, and the state behind them: at most n -/
def el2 (a b : Int) : Nat → St → List (Int × Int)
  | 0, _ => []
  | n + 1, s => if s.f then (nv s a, nv (nx s a) b) :: el2 a b n (nx2 s a b) else []
def st2 (a b : Int) : Nat → St → St
  | 0, s => s
  | n + 1, s => if s.f then st2 a b n (nx2 s a b) else s
def el4 : Nat → St → List (Int × Int × Int × Int)
  | 0, _ => []
  | n + 1, s => if s.f then (nv s 1, nv (nx s 1) 1, nv (nx (nx s 1) 1) 1, nv (nx (nx (nx s 1) 1) 1) 1) :: el4 n (nx4 s) else []
def st4 : Nat → St → St
  | 0, s => s
  | n + 1, s => if s.f then st4 n (nx4 s) else s
theorem el2_len (a b : Int) : ∀ n s, (el2 a b n s).length ≤ n
  | 0, _ => by simp [el2]
  | n + 1, s => by
    simp only [el2]
    split
    · have := el2_len a b n (nx2 s a b)
      simp only [List.length_cons]; omega
    · simp
theorem el4_len : ∀ n s, (el4 n s).length ≤ n
  | 0, _ => by simp [el4]
  | n + 1, s => by
    simp only [el4]
    split
    · have := el4_len n (nx4 s)
      simp only [List.length_cons]; omega
    · simp
theorem nS_le (t : ByteArray) (f : Bool) (n : Int) : (nS t f n).size ≤ t.size := by
  unfold nS
  split
  · rw [ByteArray.size_extract]; omega
  · exact Nat.le_refl _
theorem nx_le (s : St) (n : Int) : (nx s n).t.size ≤ s.t.size := nS_le _ _ _
theorem st2_le (a b : Int) : ∀ n s, (st2 a b n s).t.size ≤ s.t.size
  | 0, _ => Nat.le_refl _
  | n + 1, s => by
    simp only [st2]
    split
    · exact Nat.le_trans (st2_le a b n _) (Nat.le_trans (nx_le _ _) (nx_le _ _))
    · exact Nat.le_refl _
theorem st4_le : ∀ n s, (st4 n s).t.size ≤ s.t.size
  | 0, _ => Nat.le_refl _
  | n + 1, s => by
    simp only [st4]
    split
    · exact Nat.le_trans (st4_le n _) (Nat.le_trans (nx_le _ _) (Nat.le_trans (nx_le _ _) (Nat.le_trans (nx_le _ _) (nx_le _ _))))
    · exact Nat.le_refl _
theorem nv_bd (s : St) (n : Int) : 0 ≤ nv s n ∧ nv s n < 4294967296 := by
  unfold nv nV
  split
  · rename_i h
    have hb := be_bound (s.t.data.toList.take n.toNat)
    simp [nOk] at h
    refine ⟨hb.1, Int.lt_of_lt_of_le hb.2 ?_⟩
    have hl : (s.t.data.toList.take n.toNat).length ≤ 4 := by rw [List.length_take]; omega
    have h5 := (show (s.t.data.toList.take n.toNat).length = 0 ∨ (s.t.data.toList.take n.toNat).length = 1 ∨ (s.t.data.toList.take n.toNat).length = 2 ∨ (s.t.data.toList.take n.toNat).length = 3 ∨ (s.t.data.toList.take n.toNat).length = 4 by omega)
    rcases h5 with h5 | h5 | h5 | h5 | h5 <;> rw [h5] <;> decide
  · omega
theorem nv1_bd (s : St) : 0 ≤ nv s 1 ∧ nv s 1 < 256 := by
  unfold nv nV
  split
  · have hb := be_bound (s.t.data.toList.take (1 : Int).toNat)
    refine ⟨hb.1, Int.lt_of_lt_of_le hb.2 ?_⟩
    have hl : (s.t.data.toList.take (1 : Int).toNat).length ≤ 1 := by rw [List.length_take]; omega
    have h5 := (show (s.t.data.toList.take (1 : Int).toNat).length = 0 ∨ (s.t.data.toList.take (1 : Int).toNat).length = 1 by omega)
    rcases h5 with h5 | h5 <;> rw [h5] <;> decide
  · omega
/-- all of it -/
def sH (s : ByteArray) : St := ⟨txS s true ⟨#[80, 82, 49]⟩, txF s true ⟨#[80, 82, 49]⟩⟩
def sP (s : ByteArray) : St := st2 2 1 (nv (sH s) 1).toNat (nx (sH s) 1)
def lP (s : ByteArray) : List (Int × Int) := el2 2 1 (nv (sH s) 1).toNat (nx (sH s) 1)
def sW (s : ByteArray) : St := st2 1 1 (nv (sP s) 1).toNat (nx (sP s) 1)
def lW (s : ByteArray) : List (Int × Int) := el2 1 1 (nv (sP s) 1).toNat (nx (sP s) 1)
def sC (s : ByteArray) : St := st4 (nv (sW s) 1).toNat (nx (sW s) 1)
def lC (s : ByteArray) : List (Int × Int × Int × Int) := el4 (nv (sW s) 1).toNat (nx (sW s) 1)
/-- was the form right? -/
def frmB (s : ByteArray) : Bool := (sC s).f && (sC s).t.size == 0
/-- the configuration that was read -/
def rdC (s : ByteArray) : Cfg where
  nP := (lP s).length
  nW := (lW s).length
  nC := (lC s).length
  q := fun i => ((lP s).getD i (0, 0)).1
  s := fun i => ((lP s).getD i (0, 0)).2
  wp := fun i => ((lW s).getD i (0, 0)).1
  wt := fun i => ((lW s).getD i (0, 0)).2
  cf := fun i => ((lC s).getD i (0, 0, 0, 0)).1
  ct := fun i => ((lC s).getD i (0, 0, 0, 0)).2.1
  cc := fun i => ((lC s).getD i (0, 0, 0, 0)).2.2.1
  cw := fun i => ((lC s).getD i (0, 0, 0, 0)).2.2.2
/-- none -/
def noC : Cfg := ⟨0, 0, 0, fun _ => 0, fun _ => 0, fun _ => 0, fun _ => 0, fun _ => 0, fun _ => 0, fun _ => 0, fun _ => 0⟩
/-- what is answered: the error, the configuration -/
noncomputable def gtE (s : ByteArray) : Int := if frmB s then ckE (rdC s) else 6
noncomputable def gtC (s : ByteArray) : Cfg := if gtE s = 0 then rdC s else noC
theorem lP_len (s : ByteArray) : (lP s).length ≤ 255 := by
  have h := el2_len 2 1 (nv (sH s) 1).toNat (nx (sH s) 1)
  have := nv1_bd (sH s)
  unfold lP; omega
theorem lW_len (s : ByteArray) : (lW s).length ≤ 255 := by
  have h := el2_len 1 1 (nv (sP s) 1).toNat (nx (sP s) 1)
  have := nv1_bd (sP s)
  unfold lW; omega
theorem lC_len (s : ByteArray) : (lC s).length ≤ 255 := by
  have h := el4_len (nv (sW s) 1).toNat (nx (sW s) 1)
  have := nv1_bd (sW s)
  unfold lC; omega
theorem nx_bad {s : St} (h : s.f = false) (n : Int) : (nx s n).f = false := by simp [nx, nOk, h]
theorem st2_bad {s : St} (h : s.f = false) (a b : Int) : ∀ n, (st2 a b n s).f = false
  | 0 => h
  | n + 1 => by simp [st2, h]
theorem st4_bad {s : St} (h : s.f = false) : ∀ n, (st4 n s).f = false
  | 0 => h
  | n + 1 => by simp [st4, h]
theorem frm_bad {s : ByteArray} (h : (sH s).f = false) : frmB s = false := by
  have h1 : (sP s).f = false := st2_bad (nx_bad h 1) _ _ _
  have h2 : (sW s).f = false := st2_bad (nx_bad h1 1) _ _ _
  have h3 : (sC s).f = false := st4_bad (nx_bad h2 1) _
  simp [frmB, h3]
end Go.Proofs.Ythgoighpmnecbaa
