/- Helper text of this seat (BackP): contracts of functions of the given program and of its references, each told by its theorem. -/
import Derived.Test.YtjgelbcibjaehaaCut
namespace Go.Proofs.Ytjgelbcibjaehaa
open Go.RowKit Go.Proofs.YtjgelbcibjaehaaW.PrintWords
set_option linter.unusedVariables false
set_option linter.unusedSimpArgs false
/-- the bytes of pairs of a number and a width, one behind the other -/
def cat : List (Int × Int) → ByteArray
  | [] => ⟨#[]⟩
  | p :: ps => pS p.1 p.2 ++ cat ps
theorem cat_snoc : ∀ (ps : List (Int × Int)) (n v : Int), cat (ps ++ [(n, v)]) = cat ps ++ pS n v
  | [], n, v => by
    show pS n v ++ ByteArray.empty = ByteArray.empty ++ pS n v
    simp
  | p :: ps, n, v => by simp only [List.cons_append, cat, cat_snoc ps n v, ByteArray.append_assoc]
theorem bw_be : ∀ (k : Nat) (l : List UInt8), l.length = k → bw k (be l) = l.map fun c => (c.toNat : Int)
  | 0, l, h => by
    have : l = [] := by simpa using h
    subst this
    rfl
  | k + 1, l, h => by
    obtain ⟨m, c, rfl⟩ : ∃ m c, l = m ++ [c] := ⟨l.dropLast, l.getLast (by intro e; subst e; simp at h), (List.dropLast_concat_getLast _).symm⟩
    have hm : m.length = k := by simpa using h
    have hc := c.toNat_lt
    rw [be_snoc]
    have e1 : (be m * 256 + (c.toNat : Int)) / 256 = be m := by omega
    have e2 : (be m * 256 + (c.toNat : Int)) % 256 = c.toNat := by omega
    rw [bw, e1, e2, bw_be k m hm]
    simp
/-- what is read, put again, are the bytes -/
theorem put_list (l : List UInt8) (h1 : 1 ≤ l.length) (h4 : l.length ≤ 4) : 0 ≤ be l ∧ be l < 4294967296 ∧ pE (be l) l.length = 0 ∧ pS (be l) l.length = ⟨l.toArray⟩ := by
  have hb := be_bound l
  have h256 : (256 : Int) ^ l.length ≤ 4294967296 := by
    rcases (show l.length = 1 ∨ l.length = 2 ∨ l.length = 3 ∨ l.length = 4 by omega) with h | h | h | h <;> rw [h] <;> decide
  have hbad : pBad (be l) l.length = false := by
    simp only [pBad, Int.toNat_natCast]
    simp
    omega
  refine ⟨hb.1, by omega, by simp [pE, hbad], ?_⟩
  have e : pS (be l) l.length = strOfNums (bw l.length (be l)) := by simp [pS, hbad]
  rw [e, bw_be _ _ rfl]
  apply ByteArray.ext
  apply Array.toList_inj.1
  show ((l.map fun c => (c.toNat : Int)).map fun n => UInt8.ofNat n.toNat) = l
  rw [List.map_map]
  have : ((fun n : Int => UInt8.ofNat n.toNat) ∘ fun c : UInt8 => (c.toNat : Int)) = id := by
    funext c
    simp
  rw [this, List.map_id]
theorem ext_list (t : ByteArray) (a k : Nat) (h : a + k ≤ t.size) : ((t.extract a t.size).data.toList.take k).length = k ∧ (⟨((t.extract a t.size).data.toList.take k).toArray⟩ : ByteArray) = t.extract a (a + k) := by
  have e : (t.extract a t.size).data.toList = (t.data.toList.drop a).take (t.size - a) := by
    simp only [ByteArray.data_extract, Array.toList_extract, List.extract_eq_take_drop]
  have hz : t.data.toList.length = t.size := by rw [Array.length_toList]; rfl
  refine ⟨?_, ?_⟩
  · rw [e, List.length_take, List.length_take, List.length_drop]; omega
  · apply ByteArray.ext
    apply Array.toList_inj.1
    show (t.extract a t.size).data.toList.take k = (t.extract a (a + k)).data.toList
    rw [e]
    simp only [ByteArray.data_extract, Array.toList_extract, List.extract_eq_take_drop]
    rw [List.take_take]
    congr 1
    omega
theorem put_read (t : ByteArray) (a k : Nat) (h1 : 1 ≤ k) (h4 : k ≤ 4) (h : a + k ≤ t.size) :
    0 ≤ be ((t.extract a t.size).data.toList.take k) ∧ be ((t.extract a t.size).data.toList.take k) < 4294967296 ∧
    pE (be ((t.extract a t.size).data.toList.take k)) k = 0 ∧ pS (be ((t.extract a t.size).data.toList.take k)) k = t.extract a (a + k) := by
  obtain ⟨e1, e2⟩ := ext_list t a k h
  have hp := put_list ((t.extract a t.size).data.toList.take k) (by omega) (by omega)
  rw [e1, e2] at hp
  exact hp
end Go.Proofs.Ytjgelbcibjaehaa
