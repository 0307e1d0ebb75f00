/- Eight registers, and a call, that come in, opened. -/
import Derived.Test.YtnhffghppjlbaaaSpec
import Derived.ProofKit
import Derived.OpenShut
import Derived.Lib.SmallJoins
namespace Go.Proofs.Ytnhffghppjlbaaa
open Go.ChangeShapes Go.WideShapes Go.ChangeAt Go.RowKit Go.Joins
set_option linter.unusedVariables false
theorem cellsW : Try.prog.cellsOf 23 = 1 := by kernel_rfl
theorem cellsR : Try.prog.cellsOf 24 = 8 := by kernel_rfl
theorem wf_word {n : Int} (h : (Lit.int .u32 n).wf = true) : 0 ≤ n ∧ n < 4294967296 := by
  have h1 : IntKind.u32.min = 0 := rfl
  have h2 : IntKind.u32.max = 4294967295 := rfl
  simp only [Lit.wf, Bool.and_eq_true, decide_eq_true_eq] at h
  omega
theorem open_word8 {H : Type} {enc : TypeId × Value → H} {w : World} {base base' : Nat} {spare : Nat → Bool} {held : Bool} {r : Reach} {v : Value} {d : DataW H} {p : List MemPlace}
    (hv : Value.okWide Try.prog w r base' 24 v) (h : DataW.Trod enc Try.prog w base spare held 24 v d p) :
    ∃ (f : Nat → Int), v = .agg (regs f) ∧ Words f := by
  unfold Value.okWide at hv
  rw [Try.underlying24] at hv
  obtain ⟨cs, rfl, hsz, _⟩ := hv
  rw [cellsR] at hsz
  obtain ⟨fuel, hf⟩ := h
  obtain ⟨xs, m, _, _, hl, hxl, hx⟩ := DataW.trod_array Try.underlying24 hf
  have key : ∀ i, i < 8 → ∃ n, cs[i]? = some (.int .u32 n) ∧ 0 ≤ n ∧ n < 4294967296 := by
    intro i hi
    have h1 := hx i hi
    rw [cellsW, Nat.mul_one] at h1
    have hxi : xs[i]? = some xs[i] := List.getElem?_eq_getElem (by omega)
    rw [hxi] at h1
    obtain ⟨n, e1, _, w1⟩ := DataW.trod_int Try.underlying23 h1
    have hi' : i < cs.size := by omega
    refine ⟨n, ?_, wf_word w1⟩
    simp only [Value.cells] at e1
    rw [List.drop_eq_getElem_cons (by simpa using hi')] at e1
    simp at e1
    rw [Array.getElem?_eq_getElem hi', e1]
  refine ⟨fun i => match cs[i]? with | some (.int _ n) => n | _ => 0, ?_, ?_⟩
  · congr 1
    apply Array.ext
    · rw [hsz]; rfl
    · intro i h1 h2
      have hi : i < 8 := by omega
      obtain ⟨n, hn, _⟩ := key i hi
      have e : cs[i] = .int .u32 n := by
        rw [Array.getElem?_eq_getElem h1] at hn
        exact Option.some.inj hn
      rw [e]
      have := regs_at (fun i => match cs[i]? with | some (.int _ n) => n | _ => 0) i hi
      rw [Array.getElem?_eq_getElem h2] at this
      rw [Option.some.inj this]
      simp only [hn]
  · intro i
    by_cases hi : i < 8
    · obtain ⟨n, hn, hb⟩ := key i hi
      simp only [hn]
      exact hb
    · have e : cs[i]? = none := Array.getElem?_eq_none (by omega)
      simp [e]
end Go.Proofs.Ytnhffghppjlbaaa
