/- Helper text of this seat (RRdr): contracts of functions of the given program and of its references, each told by its theorem. -/
import Derived.Test.YtjgelbcibjaehaaNew
import Derived.Test.YtjgelbcibjaehaaCut
namespace Go.Proofs.Ytjgelbcibjaehaa
open Go.RowKit Go.Proofs.YtjgelbcibjaehaaW.PrintWords
set_option linter.unusedVariables false
set_option linter.unusedSimpArgs false
/-- the document's reader in memory -/
def IsW (w : World) (g : Nat) (s : ByteArray) (a : Nat) (f : Bool) : Prop := w.heap[g]? = some (.cells #[.string s, .int .i64 a, .bool f] 38 (0, 0))
def tl (s : ByteArray) (a : Nat) : ByteArray := s.extract a s.size
def bare (w : World) : World := { w with heap := #[] }
theorem bare_below (w : World) : Below (bare w).heap.size (bare w) w := ⟨rfl, rfl, rfl, Nat.zero_le _, fun k hk => absurd hk (Nat.not_lt_zero _)⟩
theorem tl_size (s : ByteArray) (a : Nat) (h : a ≤ s.size) : (tl s a).size = s.size - a := by unfold tl; rw [ByteArray.size_extract]; omega
theorem tl_pre (s : ByteArray) (a n : Nat) (h : a + n ≤ s.size) : (tl s a).extract 0 n = s.extract a (a + n) := by
  unfold tl
  rw [ByteArray.extract_extract]
  congr 1 <;> omega
theorem tl_tl (s : ByteArray) (a n : Nat) (h : a + n ≤ s.size) : (tl s a).extract n (tl s a).size = tl s (a + n) := by
  rw [tl_size s a (by omega)]
  unfold tl
  rw [ByteArray.extract_extract]
  congr 1 <;> omega
def txA (s : ByteArray) (a : Nat) (f : Bool) (p : ByteArray) : Nat := if txF (tl s a) f p then a + p.size else a
theorem txS_tl (s : ByteArray) (a : Nat) (f : Bool) (p : ByteArray) (ha : a ≤ s.size) : txS (tl s a) f p = tl s (txA s a f p) := by
  unfold txS txA txF cutS
  cases f
  · simp
  · cases h : isPre (tl s a) p
    · simp
    · have := pre_le h
      rw [tl_size s a ha] at this
      simp [tl_tl s a p.size (by omega)]
theorem txA_le (s : ByteArray) (a : Nat) (f : Bool) (p : ByteArray) (ha : a ≤ s.size) : txA s a f p ≤ s.size := by
  unfold txA
  cases h : txF (tl s a) f p
  · simpa using ha
  · simp [txF] at h
    have := pre_le h.2
    rw [tl_size s a ha] at this
    simp
    omega
theorem rtext_f (s : ByteArray) (a : Nat) (f : Bool) (p : ByteArray) (ha : a ≤ s.size) (hs : s.size ≤ 100000) (hp : p.size ≤ 100000) :
    POctetReads.prioryref05_Text.f s a f p = some (txF (tl s a) f p, s, ((txA s a f p : Nat) : Int), txF (tl s a) f p) := by
  have w1 : wrap64 ((s.size : Int) - a) = (s.size : Int) - a := by unfold wrap64; omega
  have w2 : wrap64 ((a : Int) + p.size) = ((a + p.size : Nat) : Int) := by unfold wrap64; omega
  cases f
  · simp [POctetReads.prioryref05_Text.f, txF, txA]
  · unfold POctetReads.prioryref05_Text.f
    rw [w1, w2, if_pos rfl]
    by_cases h : (s.size : Int) - a < p.size
    · have h2 : ¬ p.size ≤ s.size - a := by omega
      rw [if_pos h]
      simp [txF, txA, isPre, tl_size s a ha, h2]
    · have h2 : p.size ≤ s.size - a := by omega
      rw [if_neg h, if_pos (by omega), if_pos (by omega), if_pos (by omega)]
      simp only [Int.toNat_natCast, txF, txA, isPre, tl_size s a ha, h2, tl_pre s a p.size (by omega), Bool.true_and, decide_true]
      by_cases h3 : (s.extract a (a + p.size)).toList = p.toList
      · simp [h3]
      · simp [h3]
theorem rtext_any (g : Nat) (s : ByteArray) (a : Nat) (f : Bool) (p : ByteArray) (w : World) (h : IsW w g s a f) (ha : a ≤ s.size) (hs : s.size ≤ 100000) (hp : p.size ≤ 100000) :
    Calls Try.prog 16 #[.pointer (some ⟨g, 0, none⟩), .string p] w fun e w' => e = .returned (.bool (txF (tl s a) f p)) ∧ IsW w' g s (txA s a f p) (txF (tl s a) f p) ∧ Kept g w w' := by
  refine (POctetReads.prioryref05_Text.calls g s a f p _ _ _ _ (bare w) w ⟨h, Nat.zero_le _⟩ (bare_below w) (rtext_f s a f p ha hs hp)).mono ?_
  rintro e w' ⟨rfl, h1, h2, h3⟩
  exact ⟨rfl, h1.1, ⟨h2.os, h2.tape, h2.output, h3.1, fun k hk hg => h3.2 k hk hg (by simp)⟩⟩
theorem rleft_any (s : ByteArray) (a : Nat) (f : Bool) (w : World) (ha : a ≤ s.size) (hs : s.size ≤ 100000) :
    Calls Try.prog 18 #[.agg #[.string s, .int .i64 a, .bool f]] w fun e w' => e = .returned (.int .i64 (leftOf (tl s a) f)) ∧ Below w.heap.size w w' := by
  refine POctetReads.prioryref05_Left.calls s a f _ w ?_
  have w1 : wrap64 ((s.size : Int) - a) = (s.size : Int) - a := by unfold wrap64; omega
  unfold POctetReads.prioryref05_Left.f leftOf
  rw [w1, tl_size s a ha]
  cases f
  · rfl
  · simp; omega
def nmA (s : ByteArray) (a : Nat) (f : Bool) (n : Int) : Nat := if nOk (tl s a) f n then a + n.toNat else a
theorem nS_tl (s : ByteArray) (a : Nat) (f : Bool) (n : Int) (ha : a ≤ s.size) : nS (tl s a) f n = tl s (nmA s a f n) := by
  unfold nS nmA
  cases h : nOk (tl s a) f n
  · simp
  · simp [nOk, tl_size s a ha] at h
    simp [tl_tl s a n.toNat (by omega)]
theorem nmA_le (s : ByteArray) (a : Nat) (f : Bool) (n : Int) (ha : a ≤ s.size) : nmA s a f n ≤ s.size := by
  unfold nmA
  cases h : nOk (tl s a) f n
  · simpa using ha
  · simp [nOk, tl_size s a ha] at h
    simp
    omega
theorem bt_tl (s : ByteArray) (a i : Nat) (h : a + i < s.size) : bt s ((a + i : Nat) : Int) = ((tl s a).data.toList.getD i 0).toNat := by
  have h1 : ((a + i : Nat) : Int).toNat = a + i := Int.toNat_natCast _
  unfold bt
  rw [dif_pos (by rw [h1]; exact h)]
  have hk : i < (tl s a).data.toList.length := by
    have := tl_size s a (by omega)
    simp only [ByteArray.size_data, Array.length_toList]
    omega
  rw [List.getD_eq_getElem?_getD, List.getElem?_eq_getElem hk]
  simp only [h1, Array.getElem_toList, Option.getD_some]
  unfold tl
  simp [ByteArray.data_extract]
  rfl
theorem take_be (l : List UInt8) : ∀ (k : Nat), k ≤ l.length → be (l.take (k + 1)) = if k < l.length then be (l.take k) * 256 + ((l.getD k 0).toNat : Int) else be l := by
  intro k hk
  by_cases h : k < l.length
  · rw [if_pos h, List.take_succ_eq_append_getElem h, be_snoc, List.getD_eq_getElem?_getD, List.getElem?_eq_getElem h]
    rfl
  · rw [if_neg h, List.take_of_length_le (by omega)]
theorem rnum_l (s : ByteArray) (a n : Nat) (f : Bool) (ha : a + n ≤ s.size) (hs : s.size ≤ 100000) (hn : n ≤ 4) :
    ∀ (m i : Nat), i + m = n → POctetReads.prioryref05_Num.l0 (m + 1) n (be ((tl s a).data.toList.take i)) i s a f = some (be ((tl s a).data.toList.take n), s, ((a + n : Nat) : Int), f)
  | 0, i, h => by
    have : i = n := by omega
    subst this
    have w1 : wrap64 ((a : Int) + i) = ((a + i : Nat) : Int) := by unfold wrap64; omega
    simp [POctetReads.prioryref05_Num.l0, w1]
  | m + 1, i, h => by
    have ih := rnum_l s a n f ha hs hn m (i + 1) (by omega)
    have w1 : wrap64 ((a : Int) + i) = ((a + i : Nat) : Int) := by unfold wrap64; omega
    have w2 : wrap64 ((i : Int) + 1) = ((i + 1 : Nat) : Int) := by unfold wrap64; omega
    have hlen : i < (tl s a).data.toList.length := by
      have := tl_size s a (by omega)
      simp only [ByteArray.size_data, Array.length_toList]
      omega
    have hb : be ((tl s a).data.toList.take i) < 16777216 := be_small (k := i) (by rw [List.length_take]; omega) (by omega)
    have hb0 := (be_bound ((tl s a).data.toList.take i)).1
    have hc := ((tl s a).data.toList.getD i 0).toNat_lt
    have e : (((be ((tl s a).data.toList.take i) * 256) % 4294967296) + ((bt s ((a + i : Nat) : Int)) % 4294967296)) % 4294967296 = be ((tl s a).data.toList.take (i + 1)) := by
      rw [take_be _ i (by omega), if_pos hlen, bt_tl s a i (by omega)]
      omega
    rw [POctetReads.prioryref05_Num.l0, w1, w2, e, if_pos (by omega), if_pos (by omega), if_pos (by omega)]
    exact ih
theorem rnum_f (s : ByteArray) (a : Nat) (f : Bool) (n : Int) (ha : a ≤ s.size) (hs : s.size ≤ 100000) :
    POctetReads.prioryref05_Num.f 6 s a f n = some (nV (tl s a) f n, s, ((nmA s a f n : Nat) : Int), nOk (tl s a) f n) := by
  have w1 : wrap64 ((s.size : Int) - a) = (s.size : Int) - a := by unfold wrap64; omega
  cases f
  · simp [POctetReads.prioryref05_Num.f, POctetReads.prioryref05_Num.j0, nV, nmA, nOk]
  · unfold POctetReads.prioryref05_Num.f
    rw [if_pos rfl, w1]
    by_cases h1 : n < 1
    · have : ¬ 1 ≤ n := by omega
      rw [if_pos h1]
      simp [POctetReads.prioryref05_Num.j0, nV, nmA, nOk, this]
    by_cases h2 : n > 4
    · have : ¬ n ≤ 4 := by omega
      rw [if_neg h1, if_pos h2]
      simp [POctetReads.prioryref05_Num.j0, nV, nmA, nOk, this]
    rw [if_neg h1, if_neg h2]
    by_cases h3 : (s.size : Int) - a < n
    · have : ¬ n ≤ ((s.size - a : Nat) : Int) := by omega
      simp [POctetReads.prioryref05_Num.j0, nV, nmA, nOk, h3, tl_size s a ha, this]
    · obtain ⟨k, rfl⟩ : ∃ k : Nat, n = k := ⟨n.toNat, by omega⟩
      have hok : nOk (tl s a) true k = true := by simp [nOk, tl_size s a ha]; omega
      have hl := rnum_l s a k true (by omega) hs (by omega) k 0 (by omega)
      have hmono : ∀ j, k + 1 ≤ j → POctetReads.prioryref05_Num.l0 j k 0 0 s a true = some (be ((tl s a).data.toList.take k), s, ((a + k : Nat) : Int), true) := by
        intro j hj
        induction j with
        | zero => omega
        | succ j ih =>
          by_cases h : k + 1 ≤ j
          · exact (POctetReads.prioryref05_Num.mono_l j).2 _ _ _ _ _ _ _ (ih h)
          · have : j = k := by omega
            subst this
            exact hl
      simp only [POctetReads.prioryref05_Num.j0, h3, decide_false, Bool.false_eq_true, if_false]
      rw [hmono 5 (by omega)]
      simp [nV, nmA, hok]
theorem rnum_any (g : Nat) (s : ByteArray) (a : Nat) (f : Bool) (n : Int) (w : World) (h : IsW w g s a f) (ha : a ≤ s.size) (hs : s.size ≤ 100000) :
    Calls Try.prog 17 #[.pointer (some ⟨g, 0, none⟩), .int .i64 n] w fun e w' => e = .returned (.int .u32 (nV (tl s a) f n)) ∧ IsW w' g s (nmA s a f n) (nOk (tl s a) f n) ∧ Kept g w w' := by
  refine (POctetReads.prioryref05_Num.calls 6 g s a f n _ _ _ _ (bare w) w ⟨h, Nat.zero_le _⟩ (bare_below w) (rnum_f s a f n ha hs)).mono ?_
  rintro e w' ⟨rfl, h1, h2, h3⟩
  exact ⟨rfl, h1.1, ⟨h2.os, h2.tape, h2.output, h3.1, fun k hk hg => h3.2 k hk hg (by simp)⟩⟩
end Go.Proofs.Ytjgelbcibjaehaa
