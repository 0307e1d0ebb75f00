/- 'prioryref02.Same' of two rows that are the same. -/
import Derived.Test.YtofkgceenppdbaaOwn
import Derived.Deep.QuietTactic
import Derived.BigQuiet
import Derived.Lib.Hide
namespace Go.Proofs.Ytofkgceenppdbaa
open Go.RowKit
set_option linter.unusedVariables false
set_option linter.unusedSimpArgs false
theorem same_yes (p q : Option Addr) (c1 c2 : Nat) (xs : List Int) (w : World) (hp : Sl w .u32 p xs.length (fun i => xs.getD i 0)) (hq : Sl w .u32 q xs.length (fun i => xs.getD i 0)) (hL : xs.length ≤ 100000) :
    Calls Try.prog 16 #[.slice p xs.length c1, .slice q xs.length c2] w fun e w' => e = .returned (.bool true) ∧ Below w.heap.size w w' := by
  generalize hn : xs.length = n at *
  clear hn
  go_enter Try.func16, Try.ntmps16
  go_wp2
  go_loopw [5] (fun i W' => ∃ k : Nat, k ≤ n ∧ i = .int .i64 k ∧ Below w.heap.size w W') (fun i _ => n - (intOf i).toNat)
  case atStart => exact ⟨0, by omega, rfl, Below.refl _ _⟩
  case round =>
    obtain ⟨k, hk, rfl, hb⟩ := hrel
    by_cases hkn : k < n
    · have hkn' : (k : Int) < n := by omega
      have hk0 : (0 : Int) ≤ (k : Int) := by omega
      rcases hp with h0 | ⟨b1, o1, rfl, h1⟩
      · omega
      rcases hq with h0 | ⟨b2, o2, rfl, h2⟩
      · omega
      have x1 := keepc hb (h1 k hkn)
      have x2 := keepc hb (h2 k hkn)
      obtain ⟨x, hx⟩ : ∃ x, xs.getD k 0 = x := ⟨_, rfl⟩
      simp only [hx] at x1 x2
      have HB := Lib.hid hb
      clear hb hx h1 h2
      go_wp2_with fail
      go_quiet (fail)
      go_wp2
      refine ⟨⟨k + 1, by omega, by go_num, bdrewN HB.out _⟩, by simp [intOf]; omega⟩
    · have hkn' : ¬ (k : Int) < n := by omega
      have HB := Lib.hid hb
      clear hb
      go_wp2
      go_ret
      exact ⟨rfl, HB.out⟩
end Go.Proofs.Ytofkgceenppdbaa
