/- Helper text of this seat (Open): contracts of functions of the given program and of its references, each told by its theorem. -/
import Derived.Test.YtjgelbcibjaehaaBlk
import Derived.ProofKit
import Derived.OpenShut
namespace Go.Proofs.Ytjgelbcibjaehaa
open Go.RowKit
theorem wf_word {n : Int} (h : (Lit.int .u32 n).wf = true) : 0 ≤ n ∧ n < 4294967296 := by
  have h1 : IntKind.u32.min = 0 := rfl
  have h2 : IntKind.u32.max = 4294967295 := rfl
  simp only [Lit.wf, Bool.and_eq_true, decide_eq_true_eq] at h
  omega
end Go.Proofs.Ytjgelbcibjaehaa
