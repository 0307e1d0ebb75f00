/- Helper text of this seat (Open): contracts of functions of the given program and of its references, each told by its theorem. -/
import Derived.Test.YthdmbnbamlmciaaOpenI
namespace Go.Proofs.Ythdmbnbamlmciaa
open Go.ChangeShapes Go.WideShapes Go.ChangeAt Go.RowKit
theorem open_ints {H : Type} {enc : TypeId × Value → H} {w : World} {base base' : Nat} {spare : Nat → Bool} {held : Bool} {r : Reach} {v : Value} {d : DataW H} {p : List MemPlace}
    (hv : Value.okWide Try.prog w r base' 22 v) (h : DataW.Trod enc Try.prog w base spare held 22 v d p) :
    ∃ (a : Option Addr) (L cap : Nat) (X : Nat → Int), v = .slice a L cap ∧ Sl w .i64 a L X ∧ (∀ i, i < L → (Lit.int .i64 (X i)).wf = true) ∧ L ≤ maxLen :=
  open_row Try.underlying22 Try.underlying3 (by kernel_rfl) hv h
end Go.Proofs.Ythdmbnbamlmciaa
