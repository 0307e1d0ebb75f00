/- Helper text of this seat (Cut): contracts of functions of the given program and of its references, each told by its theorem. -/
import Derived.Test.YtjgelbcibjaehaaNew
import Derived.Lib.Bytes
namespace Go.Proofs.Ytjgelbcibjaehaa
open Go.RowKit Go.Proofs.YtjgelbcibjaehaaW.PrintWords
set_option linter.unusedVariables false
set_option linter.unusedSimpArgs false
theorem bw_len (k : Nat) : ∀ n, (bw k n).length = k := by
  induction k with
  | zero => intro n; rfl
  | succ k ih => intro n; simp [bw, ih]
theorem bad_false {n v : Int} (h : pE n v = 0) : pBad n v = false := by
  unfold pE at h
  cases k : pBad n v with | false => rfl | true => rw [k] at h; simp at h
theorem good {n v : Int} (h : pE n v = 0) : 1 ≤ v ∧ v ≤ 4 ∧ n < 256 ^ v.toNat := by
  have k := bad_false h
  simp [pBad] at k
  omega
theorem pS_data {n v : Int} (h : pE n v = 0) : (pS n v).data.toList = (bw v.toNat n).map fun n => UInt8.ofNat n.toNat := by
  simp only [pS, bad_false h]
  rfl
theorem pS_size {n v : Int} (h : pE n v = 0) : (pS n v).size = v.toNat := by
  have h1 := congrArg List.length (pS_data h)
  simp [bw_len] at h1
  exact h1
theorem be_bw : ∀ (k : Nat) (n : Int), 0 ≤ n → n < 256 ^ k → be ((bw k n).map fun n => UInt8.ofNat n.toNat) = n
  | 0, n, h0, h1 => by simp at h1; simp [bw, be]; omega
  | k + 1, n, h0, h1 => by
    have p1 : (256 : Int) ^ (k + 1) = 256 ^ k * 256 := Int.pow_succ ..
    have ih := be_bw k (n / 256) (by omega) (by omega)
    simp only [bw, List.map_append, List.map_cons, List.map_nil]
    rw [be_snoc, ih]
    have : ((UInt8.ofNat (n % 256).toNat).toNat : Int) = n % 256 := by simp; omega
    omega
theorem app_take (s t : ByteArray) : (s ++ t).data.toList.take s.size = s.data.toList := by
  have : s.size = s.data.toList.length := by simp
  rw [this, ByteArray.data_append, Array.toList_append, List.take_left]
theorem app_drop (s t : ByteArray) : (s ++ t).extract s.size (s ++ t).size = t := by
  exact ByteArray.extract_append_eq_right rfl ByteArray.size_append
/-- the bytes of a number, and what follows: the number, and what follows is left -/
theorem num_full (g : Nat) (n v : Int) (t : ByteArray) (w : World) (hn : 0 ≤ n) (he : pE n v = 0) (h : IsR w g (pS n v ++ t) true) (ht : t.size ≤ 100000000) :
    Calls Try.prog 12 #[.pointer (some ⟨g, 0, none⟩), .int .i64 v] w fun e w' => e = .returned (.int .u32 n) ∧ IsR w' g t true ∧ Kept g w w' := by
  obtain ⟨g1, g2, g3⟩ := good he
  have hz := pS_size he
  have hsz : (pS n v ++ t).size = (pS n v).size + t.size := ByteArray.size_append
  have k := num_any g _ _ v w h (by omega)
  have e3 : nOk (pS n v ++ t) true v = true := by simp only [nOk, hsz]; simp; omega
  have e1 : nV (pS n v ++ t) true v = n := by
    simp only [nV, e3]
    rw [← hz, if_pos trivial, app_take, pS_data he, be_bw _ _ hn g3]
  have e2 : nS (pS n v ++ t) true v = t := by
    simp only [nS, e3]
    rw [← hz, if_pos trivial, app_drop]
  rwa [e1, e2, e3] at k
theorem num_short (g : Nat) (v : Int) (t : ByteArray) (w : World) (h : IsR w g t true) (ht : t.size ≤ 100000000) (hv : (t.size : Int) < v) :
    Calls Try.prog 12 #[.pointer (some ⟨g, 0, none⟩), .int .i64 v] w fun e w' => e = .returned (.int .u32 0) ∧ IsR w' g t false ∧ Kept g w w' := by
  have k := num_any g _ _ v w h (by omega)
  have e3 : nOk t true v = false := by simp [nOk]; omega
  have e1 : nV t true v = 0 := by simp [nV, e3]
  have e2 : nS t true v = t := by simp [nS, e3]
  rwa [e1, e2, e3] at k
theorem text_full (g : Nat) (t : ByteArray) (w : World) (h : IsR w g t true) (ht : t.size ≤ 100000000) :
    Calls Try.prog 15 #[.pointer (some ⟨g, 0, none⟩), .string t] w fun e w' => e = .returned (.bool true) ∧ IsR w' g (t.extract t.size t.size) true ∧ Kept g w w' := by
  have k := text_any g t true t w h (by omega) (by omega)
  have e0 : t.extract 0 t.size = t := by simp
  have e1 : isPre t t = true := by simp [isPre, e0]
  have e2 : txF t true t = true := by simp [txF, e1]
  have e3 : txS t true t = t.extract t.size t.size := by simp [txS, cutS, e1]
  rwa [e2, e3] at k
theorem left_end (g : Nat) (t : ByteArray) (w : World) (h : IsR w g (t.extract t.size t.size) true) :
    Calls Try.prog 14 #[.pointer (some ⟨g, 0, none⟩)] w fun e w' => e = .returned (.int .i64 0) ∧ w' = w := by
  have k := left_any g _ _ w h
  have e : leftOf (t.extract t.size t.size) true = 0 := by simp [leftOf]
  rwa [e] at k
theorem left_none (g : Nat) (t : ByteArray) (w : World) (h : IsR w g t false) :
    Calls Try.prog 14 #[.pointer (some ⟨g, 0, none⟩)] w fun e w' => e = .returned (.int .i64 0) ∧ w' = w := left_any g _ _ w h
theorem left_all (g : Nat) (t : ByteArray) (w : World) (h : IsR w g t true) :
    Calls Try.prog 14 #[.pointer (some ⟨g, 0, none⟩)] w fun e w' => e = .returned (.int .i64 t.size) ∧ w' = w := left_any g _ _ w h
end Go.Proofs.Ytjgelbcibjaehaa
