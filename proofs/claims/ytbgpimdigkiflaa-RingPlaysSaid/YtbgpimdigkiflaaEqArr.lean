/- '==' of arrays of numbers, as one Bool. -/
import Derived.Test.YtbgpimdigkiflaaBase
import Derived.Laws.StructEq
namespace Go.Proofs.Ytbgpimdigkiflaa
open Go.RowKit
set_option linter.unusedVariables false
set_option linter.unusedSimpArgs false
def eqItems (d : Nat) (elem : TypeId) (n : Nat) (xs ys : Array Value) : List Nat → Sem Bool
  | [] => pure true
  | i :: is => do
    let a ← part elem xs (i * n)
    let b ← part elem ys (i * n)
    let r ← Op.equalIn d elem a b
    if (!r) = true then pure false else eqItems d elem n xs ys is
section
variable {P : Program} (w : World)
theorem run_equalIn_array (d : Nat) (t elem : TypeId) (len n : Nat) (xs ys : Array Value) (ht : P.underlying t = some (.array len elem)) (hn : (sizeOf elem).run P w = .ok n w) :
    (Op.equalIn (d + 1) t (.agg xs) (.agg ys)).run P w = (eqItems d elem n xs ys (List.range len)).run P w := by
  simp only [Op.equalIn, Sem.run_bind, run_underlying ht, Result.andThen_ok, hn]
  rw [Std.Legacy.Range.forIn_eq_forIn_range']
  simp only [Std.Legacy.Range.size, Nat.sub_zero, Nat.add_sub_cancel, Nat.div_one]
  rw [← List.range_eq_range']
  generalize List.range len = is
  clear hn ht
  induction is generalizing w with
  | nil => simp [eqItems]
  | cons i is ih =>
    simp only [List.forIn_cons, eqItems, Sem.run_bind, Sem.run_ite]
    generalize (part elem xs (i * n)).run P w = r1
    cases r1 with
    | ok a w1 =>
      simp only [Result.andThen_ok]
      generalize (part elem ys (i * n)).run P w1 = r2
      cases r2 with
      | ok b w2 =>
        simp only [Result.andThen_ok]
        generalize (Op.equalIn d elem a b).run P w2 = r3
        cases r3 with
        | ok r w3 =>
          cases r
          · simp only [Result.andThen_ok, Bool.not_false, if_true, Sem.run_pure]
          · simp only [Result.andThen_ok, Bool.not_true, Bool.false_eq_true, if_false, Sem.run_pure]
            exact ih w3
        | halt x w3 => simp [Result.andThen]
      | halt x w2 => simp [Result.andThen]
    | halt x w1 => simp [Result.andThen]
/-- arrays of numbers of one kind -/
theorem run_eq_ints (d : Nat) (t elem : TypeId) (k : IntKind) (xs ys : List Int) (ht : P.underlying t = some (.array xs.length elem)) (hn : (P.info? elem).map (·.size) = some 1) (he : P.underlying elem = some (.int k)) (hl : ys.length = xs.length) :
    (Op.equalIn (d + 2) t (.agg (xs.map (Value.int k)).toArray) (.agg (ys.map (Value.int k)).toArray)).run P w = .ok (decide (xs = ys)) w := by
  have hsz : (sizeOf elem).run P w = .ok 1 w := by
    cases hq : P.info? elem with
    | none => simp [hq] at hn
    | some i => simp [hq] at hn; simp [sizeOf, typeInfo, hq, hn]
  rw [run_equalIn_array w (d + 1) t elem xs.length 1 _ _ ht hsz]
  have hagg : (isAgg elem).run P w = .ok false w := by
    unfold isAgg
    rw [Sem.run_bind, run_underlying he w]
    rfl
  have key : ∀ (m s : Nat), s + m = xs.length → (eqItems (d + 1) elem 1 (xs.map (Value.int k)).toArray (ys.map (Value.int k)).toArray (List.range' s m)).run P w = .ok (decide (xs.drop s = ys.drop s)) w := by
    intro m
    induction m with
    | zero =>
      intro s hs
      have h1 : xs.drop s = [] := List.drop_eq_nil_of_le (by omega)
      have h2 : ys.drop s = [] := List.drop_eq_nil_of_le (by omega)
      simp [eqItems, h1, h2]
    | succ m ih =>
      intro s hs
      have hx : s < xs.length := by omega
      have hy : s < ys.length := by omega
      rw [List.range'_succ, eqItems]
      have p1 : (part elem (xs.map (Value.int k)).toArray (s * 1)).run P w = .ok (.int k xs[s]) w := by
        simp [part, hagg, hx]
      have p2 : (part elem (ys.map (Value.int k)).toArray (s * 1)).run P w = .ok (.int k ys[s]) w := by
        simp [part, hagg, hy]
      simp only [Sem.run_bind, p1, p2, Result.andThen_ok, run_equalIn_int w d elem k k _ _ he, Sem.run_ite]
      rw [List.drop_eq_getElem_cons hx, List.drop_eq_getElem_cons hy]
      by_cases h : xs[s] = ys[s]
      · simp only [h, beq_self_eq_true, Bool.not_true, Bool.false_eq_true, if_false, List.cons.injEq, true_and]
        exact ih (s + 1) (by omega)
      · have hb : (xs[s] == ys[s]) = false := by simpa using h
        simp only [hb, Bool.not_false, if_true, Sem.run_pure]
        congr 1
        symm
        rw [decide_eq_false_iff_not]
        intro h'
        exact h (List.cons.inj h').1
  have := key xs.length 0 (by omega)
  rw [List.range_eq_range']
  simpa using this
end
end Go.Proofs.Ytbgpimdigkiflaa
