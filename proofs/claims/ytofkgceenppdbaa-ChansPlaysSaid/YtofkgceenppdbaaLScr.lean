/- A script of calls as it lies. -/
import Derived.Test.YtofkgceenppdbaaLList
namespace Go.Proofs.Ytofkgceenppdbaa
open Go.RowKit
set_option linter.unusedVariables false
/-- calls: what to do, the partition, the channel, a row of words -/
def ScrW (w : World) (p : Option Addr) (n : Nat) (D P H : Nat → Int) (A : Nat → Option Addr) (CP : Nat → Nat) (Y : Nat → List Int) : Prop :=
  n = 0 ∨ ∃ b o, p = some ⟨b, o, none⟩ ∧ ∀ i, i < n → (w.cell? ⟨b, o + i * 4, none⟩ = some (.int .i64 (D i)) ∧ w.cell? ⟨b, o + i * 4 + 1, none⟩ = some (.int .i64 (P i)) ∧ w.cell? ⟨b, o + i * 4 + 2, none⟩ = some (.int .i64 (H i)) ∧ w.cell? ⟨b, o + i * 4 + 3, none⟩ = some (.slice (A i) (Y i).length (CP i))) ∧
    Sl w .u32 (A i) (Y i).length (fun t => (Y i).getD t 0) ∧ (∀ t, t < (Y i).length → 0 ≤ (Y i).getD t 0 ∧ (Y i).getD t 0 < 4294967296) ∧ (Y i).length ≤ CP i ∧ (Y i).length ≤ maxLen
end Go.Proofs.Ytofkgceenppdbaa
