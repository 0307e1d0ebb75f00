/- Helper text of this seat (LOrd): contracts of functions of the given program and of its references, each told by its theorem. -/
import Derived.Test.YtjgelbcibjaehaaNew
import Derived.Lib.Bytes
namespace Go.Proofs.Ytjgelbcibjaehaa
open Go.RowKit Go.Proofs.YtjgelbcibjaehaaW.PrintWords
set_option linter.unusedVariables false
set_option linter.unusedSimpArgs false
theorem less_snoc : ∀ (l m : List UInt8) (x y : UInt8), l.length = m.length → Op.bytesLess (l ++ [x]) (m ++ [y]) = (Op.bytesLess l m || (l == m && decide (x < y)))
  | [], [], x, y, _ => by simp [Op.bytesLess]
  | c :: l, d :: m, x, y, h => by
    have ih := less_snoc l m x y (by simpa using h)
    simp only [List.cons_append, Op.bytesLess, ih]
    by_cases h1 : c < d
    · have h2 : ¬ c = d := by intro e; subst e; simp at h1
      simp [h1, h2]
    · by_cases h2 : c = d
      · subst h2; simp
      · have h3 : (c == d) = false := by simpa using h2
        simp [h1, h3]
  | [], d :: m, x, y, h => by simp at h
  | c :: l, [], x, y, h => by simp at h
theorem bw_len (k : Nat) : ∀ n, (bw k n).length = k := by
  induction k with
  | zero => intro n; rfl
  | succ k ih => intro n; simp [bw, ih]
theorem ord_bw : ∀ (k : Nat) (a b : Int), 0 ≤ a → a < 256 ^ k → 0 ≤ b → b < 256 ^ k →
    Op.bytesLess ((bw k a).map fun n => UInt8.ofNat n.toNat) ((bw k b).map fun n => UInt8.ofNat n.toNat) = decide (a < b) ∧ (((bw k a).map fun n => UInt8.ofNat n.toNat) == ((bw k b).map fun n => UInt8.ofNat n.toNat)) = (a == b)
  | 0, a, b, a0, a1, b0, b1 => by
    have : a = 0 := by simp at a1; omega
    have : b = 0 := by simp at b1; omega
    subst a b
    exact ⟨rfl, rfl⟩
  | k + 1, a, b, a0, a1, b0, b1 => by
    have p1 : (256 : Int) ^ (k + 1) = 256 ^ k * 256 := Int.pow_succ ..
    obtain ⟨h1, h2⟩ := ord_bw k (a / 256) (b / 256) (by omega) (by omega) (by omega) (by omega)
    have hlt : (UInt8.ofNat (a % 256).toNat < UInt8.ofNat (b % 256).toNat) ↔ a % 256 < b % 256 := by
      rw [UInt8.lt_iff_toNat_lt]; simp; omega
    have heq : (UInt8.ofNat (a % 256).toNat = UInt8.ofNat (b % 256).toNat) ↔ a % 256 = b % 256 := by
      rw [← UInt8.toNat_inj]; simp; omega
    simp only [bw, List.map_append, List.map_cons, List.map_nil]
    refine ⟨?_, ?_⟩
    · rw [less_snoc _ _ _ _ (by simp [bw_len]), h1, h2, Bool.eq_iff_iff]
      simp only [Bool.or_eq_true, Bool.and_eq_true, decide_eq_true_eq, beq_iff_eq, hlt]
      omega
    · rw [Bool.eq_iff_iff] at h2 ⊢
      simp only [beq_iff_eq] at h2 ⊢
      constructor
      · intro h
        have := List.append_inj_left' h (by simp)
        have h3 := List.append_inj_right' h (by simp)
        have h4 := h2.1 this
        have h5 := heq.1 (by simpa using h3)
        omega
      · rintro rfl; rfl
theorem ord_put (a b v : Int) (a0 : 0 ≤ a) (b0 : 0 ≤ b) (ha : pE a v = 0) (hb : pE b v = 0) :
    Op.bytesLess (pS a v).toList (pS b v).toList = decide (a < b) ∧ ((pS a v).toList == (pS b v).toList) = (a == b) := by
  unfold pE at ha hb
  have ka : pBad a v = false := by cases h : pBad a v with | false => rfl | true => rw [h] at ha; simp at ha
  have kb : pBad b v = false := by cases h : pBad b v with | false => rfl | true => rw [h] at hb; simp at hb
  have h := ord_bw v.toNat a b a0 (by simp [pBad] at ka; omega) b0 (by simp [pBad] at kb; omega)
  have e : ∀ x, pBad x v = false → (pS x v).toList = (bw v.toNat x).map fun n => UInt8.ofNat n.toNat := by
    intro x hx
    simp only [pS, hx]
    exact Lib.strOfNums_toList _
  rw [e a ka, e b kb]
  exact h
theorem OctetOrder_any (a b v : Int) (a0 : 0 ≤ a) (a1 : a < 4294967296) (b0 : 0 ≤ b) (b1 : b < 4294967296) (w : World) :
    Calls Try.prog 5 #[.int .u32 a, .int .u32 b, .int .i64 v] w fun e w' => e = .returned (.bool true) ∧ Below w.heap.size w w' := by
  go_enter Try.func5, Try.ntmps5
  go_wp2_with fail
  refine (put_any a v a0 a1 _).mono ?_; rintro e w1 ⟨rfl, b1⟩
  go_wp2_with fail
  refine (put_any b v b0 (by assumption) _).mono ?_; rintro e w2 ⟨rfl, b2⟩
  go_wp2_with fail
  all_goals first
    | (refine (awake_any _).mono ?_
       rintro e w3 ⟨rfl, b3⟩
       go_wp2
       go_returns
       exact ⟨by simp, bstep (bstep b1 b2) b3⟩)
    | (exfalso
       have ha : pE a v = 0 := by assumption
       have hb : pE b v = 0 := by
         have h : (pE b v != 0) = false := by assumption
         simpa using h
       obtain ⟨o1, o2⟩ := ord_put a b v a0 b0 ha hb
       simp_all)
end Go.Proofs.Ytjgelbcibjaehaa
