/- A ring's calls, over words that are kept by whatever keeps them: contracts of ring's functions. -/
import Derived.Test.YtofkgceenppdbaaOwn
import Derived.Lib.Hide
import Derived.Outline
import Derived.Deep.QuietTactic
import Derived.BigQuiet
import Derived.Deep.RegionWith
import Derived.Deep.RegionHeld3
namespace Go.Proofs.Ytofkgceenppdbaa
open Go.RowKit
set_option linter.unusedVariables false
set_option linter.unusedSimpArgs false
/-- a ring in memory: its cap, width, where it is, how many -/
def IsRing (w : World) (g c d a m : Nat) : Prop := w.heap[g]? = some (.cells #[.int .i64 c, .int .i64 d, .int .i64 a, .int .i64 m] 109 (0, 0))
theorem IsRing.cells {w : World} {g c d a m : Nat} (h : IsRing w g c d a m) : w.cell? ⟨g, 0, none⟩ = some (.int .i64 c) ∧ w.cell? ⟨g, 1, none⟩ = some (.int .i64 d) ∧ w.cell? ⟨g, 2, none⟩ = some (.int .i64 a) ∧ w.cell? ⟨g, 3, none⟩ = some (.int .i64 m) ∧
    w.frozen? ⟨g, 2, none⟩ = false ∧ w.frozen? ⟨g, 3, none⟩ = false :=
  ⟨(bk_cell h 0).trans rfl, (bk_cell h 1).trans rfl, (bk_cell h 2).trans rfl, (bk_cell h 3).trans rfl, bk_frozen h 2, bk_frozen h 3⟩
theorem IsRing.set2 {w : World} {g c d a m : Nat} (h : IsRing w g c d a m) (a' : Nat) : IsRing (w.setCell ⟨g, 2, none⟩ (.int .i64 a')) g c d a' m := bk_set h 2 _
theorem IsRing.set3 {w : World} {g c d a m : Nat} (h : IsRing w g c d a m) (m' : Nat) : IsRing (w.setCell ⟨g, 3, none⟩ (.int .i64 m')) g c d a m' := bk_set h 3 _
theorem IsRing.below {w w1 : World} {g c d a m : Nat} (h : IsRing w g c d a m) (hb : Below w.heap.size w w1) : IsRing w1 g c d a m := bk_below h hb
/-- where the k-th message is -/
def plc (c d a k : Nat) : Nat := (a + k) % c * (d + 1)
theorem plc_le {c d a k : Nat} (hc : 1 ≤ c) : plc c d a k + (d + 1) ≤ c * (d + 1) := by
  unfold plc
  have h1 : (a + k) % c < c := Nat.mod_lt _ (by omega)
  have h2 := Nat.mul_le_mul_right (d + 1) (show (a + k) % c + 1 ≤ c by omega)
  rw [Nat.add_mul, Nat.one_mul] at h2
  exact h2
theorem cap_le {c d : Nat} (hc8 : c ≤ 8) (hd8 : d ≤ 8) : c * (d + 1) ≤ 72 := by
  have := Nat.mul_le_mul hc8 (show d + 1 ≤ 9 by omega)
  omega
/-- one word turned -/
def upd (f : Nat → Int) (i : Nat) (x : Int) : Nat → Int := fun j => if j = i then x else f j
/-- words that are kept: in block K; by whom: rv; put and get: the functions PF and GF -/
structure Keeps (R K N : Nat) (S : (Nat → Int) → World → Prop) (PF GF : FuncId) (rv : Value) : Prop where
  ne : K ≠ R
  lt : ∀ {f W}, S f W → K < W.heap.size
  eP : ∀ args w, (callFunc PF args).run Try.prog w = .ok (.enter PF args) w
  eG : ∀ args w, (callFunc GF args).run Try.prog w = .ok (.enter GF args) w
  keep : ∀ {f W W'}, S f W → Kept R W W' → S f W'
  word : ∀ {f W}, S f W → ∀ i, i < N → 0 ≤ f i ∧ f i < 4294967296
  put : ∀ f W (a : Nat) (x : Int), S f W → a < N → 0 ≤ x → x < 4294967296 → Calls Try.prog PF #[rv, .int .i64 a, .int .u32 x] W fun e W' => e = .returned (.tuple #[]) ∧ S (upd f a x) W' ∧ Kept K W W'
  get : ∀ f W (a : Nat), S f W → a < N → Calls Try.prog GF #[rv, .int .i64 a] W fun e W' => e = .returned (.int .u32 (f a)) ∧ Below W.heap.size W W'
theorem run_equalIn_func_nil {P : Program} (w : World) (d : Nat) (t : TypeId) {x : Array TypeId} {y : Array TypeId} {z : Bool} (fn : Fn) (fs cs : Array Value) (h : P.underlying t = some (.func x y z)) :
    (Op.equalIn (d + 1) t (.func fn fs cs) .nilFunc).run P w = .ok false w := by simp [Op.equalIn, run_underlying h]
theorem run_equalIn_nil_nil {P : Program} (w : World) (d : Nat) (t : TypeId) {x : Array TypeId} {y : Array TypeId} {z : Bool} (h : P.underlying t = some (.func x y z)) :
    (Op.equalIn (d + 1) t .nilFunc .nilFunc).run P w = .ok true w := by simp [Op.equalIn, run_underlying h]
theorem eqP (w : World) (fn : Fn) (fs cs : Array Value) : (binOp .eql 88 (.func fn fs cs) .nilFunc).run Try.prog w = .ok (.bool false) w := by
  simp only [binOp]
  simp [Op.equal, Op.maxDepth, run_equalIn_func_nil w 9999 _ fn fs cs Try.underlying88]
theorem eqPn (w : World) : (binOp .eql 88 .nilFunc .nilFunc).run Try.prog w = .ok (.bool true) w := by
  simp only [binOp]
  simp [Op.equal, Op.maxDepth, run_equalIn_nil_nil w 9999 _ Try.underlying88]
theorem eqG (w : World) (fn : Fn) (fs cs : Array Value) : (binOp .eql 90 (.func fn fs cs) .nilFunc).run Try.prog w = .ok (.bool false) w := by
  simp only [binOp]
  simp [Op.equal, Op.maxDepth, run_equalIn_func_nil w 9999 _ fn fs cs Try.underlying90]
theorem eqGn (w : World) : (binOp .eql 90 .nilFunc .nilFunc).run Try.prog w = .ok (.bool true) w := by
  simp only [binOp]
  simp [Op.equal, Op.maxDepth, run_equalIn_nil_nil w 9999 _ Try.underlying90]
theorem new_bad (c d : Int) (w : World) (h : c < 1 ∨ 8 < c ∨ d < 1 ∨ 8 < d) :
    Calls Try.prog 32 #[.int .i64 c, .int .i64 d] w fun e w' => e = .returned (.tuple #[.pointer none, .int .i64 2]) ∧ w' = w := by
  have h' : c < 1 ∨ (¬ c < 1 ∧ 8 < c) ∨ (¬ c < 1 ∧ ¬ 8 < c ∧ d < 1) ∨ (¬ c < 1 ∧ ¬ 8 < c ∧ ¬ d < 1 ∧ 8 < d) := by omega
  rcases h' with h1 | ⟨h1, h2⟩ | ⟨h1, h2, h3⟩ | ⟨h1, h2, h3, h4⟩
  all_goals
    go_enter Try.func32, Try.ntmps32
    go_wp2
    go_ret2
    exact ⟨rfl, rfl⟩
theorem new_ok (c d : Nat) (w : World) (hc : 1 ≤ c) (hc8 : c ≤ 8) (hd : 1 ≤ d) (hd8 : d ≤ 8) :
    Calls Try.prog 32 #[.int .i64 c, .int .i64 d] w fun e w' => e = .returned (.tuple #[.pointer (some ⟨w.heap.size, 0, none⟩), .int .i64 0]) ∧ w' = w.alloc (.cells #[.int .i64 c, .int .i64 d, .int .i64 0, .int .i64 0] 109) := by
  have h1 : ¬ (c : Int) < 1 := by omega
  have h2 : ¬ (8 : Int) < c := by omega
  have h3 : ¬ (d : Int) < 1 := by omega
  have h4 : ¬ (8 : Int) < d := by omega
  go_enter Try.func32, Try.ntmps32
  go_wp2
  go_ret2
  exact ⟨rfl, rfl⟩
theorem none_nil (w : World) :
    Calls Try.prog 54 #[.pointer none] w fun e w' => e = .returned (.bool true) ∧ w' = w := by
  go_enter Try.func54, Try.ntmps54
  go_wp2
  go_ret
  exact ⟨rfl, rfl⟩
theorem none_zero (g d a m : Nat) (w : World) (h : IsRing w g 0 d a m) :
    Calls Try.prog 54 #[.pointer (some ⟨g, 0, none⟩)] w fun e w' => e = .returned (.bool true) ∧ w' = w := by
  obtain ⟨h0, h1, h2, h3, _⟩ := h.cells
  go_enter Try.func54, Try.ntmps54
  go_wp2
  go_ret
  exact ⟨rfl, rfl⟩
theorem none_not (g c d a m : Nat) (w : World) (h : IsRing w g c d a m) (hc : 1 ≤ c) :
    Calls Try.prog 54 #[.pointer (some ⟨g, 0, none⟩)] w fun e w' => e = .returned (.bool false) ∧ w' = w := by
  obtain ⟨h0, h1, h2, h3, _⟩ := h.cells
  have hz : ((c : Int) == 0) = false := beq_eq_false_iff_ne.2 (by omega)
  go_enter Try.func54, Try.ntmps54
  go_wp2
  go_ret
  exact ⟨rfl, rfl⟩
theorem len_any (g c d a m : Nat) (w : World) (h : IsRing w g c d a m) :
    Calls Try.prog 45 #[.pointer (some ⟨g, 0, none⟩)] w fun e w' => e = .returned (.int .i64 m) ∧ w' = w := by
  obtain ⟨h0, h1, h2, h3, _⟩ := h.cells
  go_enter Try.func45, Try.ntmps45
  go_wp2
  go_ret
  exact ⟨rfl, rfl⟩
theorem place_any (g c d a m k : Nat) (w : World) (h : IsRing w g c d a m) (hc : 1 ≤ c) (hc8 : c ≤ 8) (hd8 : d ≤ 8) (ha : a ≤ 8) (hk : k ≤ 8) :
    Calls Try.prog 55 #[.pointer (some ⟨g, 0, none⟩), .int .i64 k] w fun e w' => e = .returned (.int .i64 (plc c d a k)) ∧ Below w.heap.size w w' := by
  obtain ⟨h0, h1, h2, h3, _⟩ := h.cells
  have hp := plc_le (c := c) (d := d) (a := a) (k := k) hc
  have hq := cap_le hc8 hd8
  have e1 : IntKind.i64.wrap ((a : Int) + k) = (a : Int) + k := IntWalk.i64_in _ (by omega)
  have e2 : IntKind.i64.wrap ((d : Int) + 1) = (d : Int) + 1 := IntWalk.i64_in _ (by omega)
  have e3 : ((a : Int) + k) % c * ((d : Int) + 1) = (plc c d a k : Nat) := by unfold plc; push_cast; rfl
  have e4 : IntKind.i64.wrap (((a : Int) + k) % c * ((d : Int) + 1)) = (plc c d a k : Nat) := by rw [e3]; exact IntWalk.i64_in _ (by omega)
  have hz : ((c : Int) == 0) = false := beq_eq_false_iff_ne.2 (by omega)
  clear e3
  go_enter Try.func55, Try.ntmps55
  go_wp2_with fail
  go_quiet (fail)
  go_wp2
  go_ret
  exact ⟨rfl, bdrewN (Below.refl _ _) _⟩
end Go.Proofs.Ytofkgceenppdbaa
