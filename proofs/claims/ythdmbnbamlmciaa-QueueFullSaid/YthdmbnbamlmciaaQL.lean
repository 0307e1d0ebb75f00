/- A queue as a list: plain words, no program in sight. -/
import Derived.Test.YthdmbnbamlmciaaOwn
namespace Go.Proofs.Ythdmbnbamlmciaa
set_option linter.unusedVariables false
/-- the numbers of a queue whose array is l, that begins at a, and has m -/
def qs (l : Nat → Int) (a m : Nat) : List Int := (List.range m).map fun k => l ((a + k) % 8)
theorem qs_length (l : Nat → Int) (a m : Nat) : (qs l a m).length = m := by simp [qs]
theorem qs_get (l : Nat → Int) (a m k : Nat) (h : k < m) : (qs l a m)[k]? = some (l ((a + k) % 8)) := by simp [qs, h]
theorem qs_getD (l : Nat → Int) (a m k : Nat) (h : k < m) : (qs l a m).getD k 0 = l ((a + k) % 8) := by
  rw [List.getD_eq_getElem?_getD, qs_get l a m k h]; rfl
def updq (l : Nat → Int) (i : Nat) (x : Int) : Nat → Int := fun j => if j = i then x else l j
theorem mod_ne {a j k : Nat} (hj : j < 8) (hk : k < 8) (h : j ≠ k) : (a + j) % 8 ≠ (a + k) % 8 := by omega
theorem qs_push (l : Nat → Int) (a m : Nat) (x : Int) (hm : m < 8) : qs (updq l ((a + m) % 8) x) a (m + 1) = qs l a m ++ [x] := by
  unfold qs
  rw [List.range_succ, List.map_append]
  congr 1
  · apply List.map_congr_left
    intro k hk
    rw [List.mem_range] at hk
    simp only [updq]
    rw [if_neg (mod_ne (by omega) (by omega) (by omega))]
  · simp [updq]
theorem qs_tail (l : Nat → Int) (a m : Nat) : qs l ((a + 1) % 8) m = (qs l a (m + 1)).tail := by
  apply List.ext_getElem?
  intro k
  rw [List.getElem?_tail]
  by_cases h : k < m
  · rw [qs_get _ _ _ _ h, qs_get _ _ _ _ (by omega)]
    congr 2
    omega
  · rw [List.getElem?_eq_none (by rw [qs_length]; omega), List.getElem?_eq_none (by rw [qs_length]; omega)]
/-- numbers of 1 to n, each once, are n at most -/
theorem few : ∀ (n : Nat) (l : List Int), l.Nodup → (∀ x ∈ l, 1 ≤ x ∧ x ≤ n) → l.length ≤ n
  | 0, l, _, h => by
    cases l with
    | nil => simp
    | cons x l => have := h x (by simp); omega
  | n + 1, l, hn, h => by
    have h1 := few n (l.erase ((n : Int) + 1)) (hn.erase _) fun x hx => by
      have h2 := h x (List.mem_of_mem_erase hx)
      have h3 : x ≠ (n : Int) + 1 := fun e => by
        subst e
        exact (List.Nodup.not_mem_erase hn) hx
      omega
    have := List.length_erase (a := (n : Int) + 1) (l := l)
    split at this <;> omega
/-- the state of a queue: its list -/
def Good (L : List Int) : Prop := L.Nodup ∧ ∀ x ∈ L, 1 ≤ x ∧ x ≤ 8
theorem Good.le {L : List Int} (h : Good L) : L.length ≤ 8 := few 8 L h.1 h.2
theorem Good.lt {L : List Int} (h : Good L) {n : Int} (h1 : 1 ≤ n) (h8 : n ≤ 8) (hn : n ∉ L) : L.length < 8 := by
  have h2 : (n :: L).length ≤ 8 := few 8 _ (List.nodup_cons.2 ⟨hn, h.1⟩) fun x hx => by
    rcases List.mem_cons.1 hx with rfl | hx
    · omega
    · exact h.2 x hx
  simp at h2
  omega
def pushE (L : List Int) (n : Int) : Int := if n < 1 ∨ 8 < n then 2 else if n ∈ L then 5 else 0
def pushL (L : List Int) (n : Int) : List Int := if pushE L n = 0 then L ++ [n] else L
theorem Good.push {L : List Int} (h : Good L) (n : Int) : Good (pushL L n) := by
  unfold pushL
  by_cases hp : pushE L n = 0
  · rw [if_pos hp]
    by_cases h1 : n < 1 ∨ 8 < n
    · simp [pushE, h1] at hp
    · by_cases h2 : n ∈ L
      · simp [pushE, h1, h2] at hp
      · refine ⟨List.nodup_append.2 ⟨h.1, by simp, ?_⟩, ?_⟩
        · intro a ha b hb e
          simp at hb
          subst hb
          subst e
          exact h2 ha
        · intro x hx
          rcases List.mem_append.1 hx with hx | hx
          · exact h.2 x hx
          · simp at hx; omega
  · rw [if_neg hp]
    exact h
theorem Good.tail {L : List Int} (h : Good L) : Good L.tail := ⟨h.1.sublist (List.tail_sublist L), fun x hx => h.2 x (List.mem_of_mem_tail hx)⟩
theorem Good.erase {L : List Int} (h : Good L) (n : Int) : Good (L.erase n) := ⟨h.1.erase n, fun x hx => h.2 x (List.mem_of_mem_erase hx)⟩
def dropE (L : List Int) (n : Int) : Int := if n < 1 ∨ 8 < n then 2 else if n ∈ L then 0 else 4
def turnL (L : List Int) : List Int := L.tail ++ L.take 1
theorem Good.turn {L : List Int} (h : Good L) : Good (turnL L) := by
  cases L with
  | nil => exact h
  | cons x L =>
    obtain ⟨h1, h2⟩ := h
    rw [List.nodup_cons] at h1
    refine ⟨?_, ?_⟩
    · simp only [turnL, List.tail_cons, List.take_succ_cons, List.take_zero]
      refine List.nodup_append.2 ⟨h1.2, by simp, ?_⟩
      intro a ha b hb e
      simp at hb
      subst hb
      subst e
      exact h1.1 ha
    · intro y hy
      simp only [turnL, List.tail_cons, List.take_succ_cons, List.take_zero] at hy
      rcases List.mem_append.1 hy with hy | hy
      · exact h2 y (by simp [hy])
      · simp at hy; exact h2 y (by simp [hy])
/-- a number's place -/
def idx : List Int → Int → Nat
  | [], _ => 0
  | x :: l, n => if x = n then 0 else idx l n + 1
theorem idx_lt : ∀ (l : List Int) (n : Int), n ∈ l → idx l n < l.length
  | x :: l, n, h => by
    simp only [idx, List.length_cons]
    split
    · omega
    · rcases List.mem_cons.1 h with rfl | h
      · contradiction
      · have := idx_lt l n h; omega
theorem idx_not : ∀ (l : List Int) (n : Int), n ∉ l → idx l n = l.length
  | [], _, _ => rfl
  | x :: l, n, h => by
    simp only [List.mem_cons, not_or] at h
    have e : ¬ x = n := fun e => h.1 e.symm
    simp only [idx, List.length_cons, if_neg e, idx_not l n h.2]
theorem idx_le (l : List Int) (n : Int) : idx l n ≤ l.length := by
  by_cases h : n ∈ l
  · exact Nat.le_of_lt (idx_lt l n h)
  · rw [idx_not l n h]; exact Nat.le_refl _
theorem idx_before : ∀ (l : List Int) (n : Int) (k : Nat), k < idx l n → l.getD k 0 ≠ n
  | [], n, k, h => by simp [idx] at h
  | x :: l, n, k, h => by
    simp only [idx] at h
    split at h
    · omega
    · cases k with
      | zero => simpa
      | succ k => simpa using idx_before l n k (by omega)
theorem idx_at : ∀ (l : List Int) (n : Int), n ∈ l → l.getD (idx l n) 0 = n
  | x :: l, n, h => by
    simp only [idx]
    split
    · simpa
    · rcases List.mem_cons.1 h with rfl | h
      · contradiction
      · simpa using idx_at l n h
theorem erase_idx : ∀ (l : List Int) (n : Int), n ∈ l → l.erase n = l.eraseIdx (idx l n)
  | x :: l, n, h => by
    rw [List.erase_cons]
    simp only [idx]
    by_cases e : x = n
    · subst e; simp
    · have e' : (x == n) = false := by simpa using e
      rw [e', if_neg e]
      rcases List.mem_cons.1 h with rfl | h
      · exact absurd rfl e
      · simp [erase_idx l n h]
theorem erase_not {l : List Int} {n : Int} (h : n ∉ l) : l.erase n = l := List.erase_of_not_mem h
/-- the array behind so many moves of a drop: from the place k on each is the next one's -/
def moved (l : Nat → Int) (a k i : Nat) : Nat → Int := fun j => if k ≤ (j + 8 - a) % 8 ∧ (j + 8 - a) % 8 < i then l ((j + 1) % 8) else l j
theorem moved_self (l : Nat → Int) (a k : Nat) : moved l a k k = l := by
  funext j
  unfold moved
  rw [if_neg (by omega)]
theorem moved_at (l : Nat → Int) (a k i p : Nat) (ha : a < 8) (hp : p < 8) : moved l a k i ((a + p) % 8) = if k ≤ p ∧ p < i then l ((a + (p + 1)) % 8) else l ((a + p) % 8) := by
  unfold moved
  have e : ((a + p) % 8 + 8 - a) % 8 = p := by omega
  have e2 : ((a + p) % 8 + 1) % 8 = (a + (p + 1)) % 8 := by omega
  rw [e, e2]
theorem moved_step (l : Nat → Int) (a k i : Nat) (ha : a < 8) (hi : i + 1 < 8) (hk : k ≤ i) : updq (moved l a k i) ((a + i) % 8) (moved l a k i ((a + (i + 1)) % 8)) = fun j => if j < 8 then moved l a k (i + 1) j else moved l a k i j := by
  funext j
  by_cases hj : j < 8
  · rw [if_pos hj]
    obtain ⟨p, hp, rfl⟩ : ∃ p, p < 8 ∧ j = (a + p) % 8 := ⟨(j + 8 - a) % 8, by omega, by omega⟩
    unfold updq
    by_cases e : p = i
    · subst e
      rw [if_pos rfl, moved_at _ _ _ _ _ ha (by omega), moved_at _ _ _ _ _ ha (by omega), if_neg (by omega), if_pos (by omega)]
    · rw [if_neg (mod_ne hp (by omega) e), moved_at _ _ _ _ _ ha hp, moved_at _ _ _ _ _ ha hp]
      by_cases h2 : k ≤ p ∧ p < i
      · rw [if_pos h2, if_pos (by omega)]
      · rw [if_neg h2, if_neg (by omega)]
  · rw [if_neg hj]
    unfold updq
    rw [if_neg (by omega)]
theorem moved_all (l : Nat → Int) (a k m : Nat) (ha : a < 8) (hm : m + 1 ≤ 8) (hk : k ≤ m) : qs (moved l a k m) a m = (qs l a (m + 1)).eraseIdx k := by
  apply List.ext_getElem?
  intro p
  rw [List.getElem?_eraseIdx]
  by_cases hp : p < m
  · rw [qs_get _ _ _ _ hp, moved_at _ _ _ _ _ ha (by omega)]
    by_cases h2 : p < k
    · rw [if_pos h2, if_neg (by omega), qs_get _ _ _ _ (by omega)]
    · rw [if_neg h2, if_pos (by omega), qs_get _ _ _ _ (by omega)]
  · rw [List.getElem?_eq_none (by rw [qs_length]; omega)]
    by_cases h2 : p < k
    · omega
    · rw [if_neg h2, List.getElem?_eq_none (by rw [qs_length]; omega)]
end Go.Proofs.Ythdmbnbamlmciaa
