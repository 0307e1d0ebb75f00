/- Helper text of this seat (Lw): contracts of functions of the given program and of its references, each told by its theorem. -/
import Derived.Test.YthdmbnbamlmciaaQ4
import Derived.Test.YthdmbnbamlmciaaSameI
namespace Go.Proofs.Ythdmbnbamlmciaa
open Go.RowKit
set_option linter.unusedVariables false
set_option linter.unusedSimpArgs false
theorem IsQ.new {w : World} {g : Nat} (h : RawQ w g (fun _ => 0) 0 0) : IsQ w g [] := ⟨_, 0, 0, h, by omega, rfl, List.nodup_nil, fun x hx => by simp at hx⟩
theorem new_q (w : World) :
    Calls Try.prog 9 #[] w fun e w' => ∃ g, e = .returned (.pointer (some ⟨g, 0, none⟩)) ∧ IsQ w' g [] ∧ w.heap.size ≤ g ∧ Below w.heap.size w w' := by
  refine (new_any w).mono ?_
  rintro e w' ⟨rfl, rfl⟩
  exact ⟨_, rfl, .new (bk_new w _), Nat.le_refl _, by go_grown⟩
theorem IsQ.b {w w' : World} {g B : Nat} {L : List Int} (h : IsQ w g L) (hb : Below B w w') (hg : g < B) : IsQ w' g L := by
  obtain ⟨l, a, m, h, r⟩ := h
  exact ⟨l, a, m, (hb.block g hg).trans h, r⟩
theorem IsQ.alloc {w : World} {g : Nat} {L : List Int} (h : IsQ w g L) (o : Obj) : IsQ (w.alloc o) g L := h.below (by go_grown)
theorem own_kept_g {w w' : World} {B e g : Nat} {q : IntKind} {v : Value} {zs : List Int} (h : w.ownsInts B e q v zs) (k : Kept g w w') (hg : g < B) : w'.ownsInts B e q v zs :=
  h.kept (row := some g) ⟨k.os, k.tape, k.output, k.size, fun i hi hne => k.block i hi fun e => hne (by rw [e])⟩ (by
    by_cases hv : v.ownBlock = some g
    · have := (h.1.lt g hv).1
      omega
    · exact .inr hv)
theorem Kept.then_b {g B : Nat} {a w w' : World} (k : Kept g a w) (h : Below B w w') (hB : a.heap.size ≤ B) : Kept g a w' :=
  ⟨h.os.trans k.os, h.tape.trans k.tape, h.output.trans k.output, Nat.le_trans k.size h.size, fun i hi hg => (h.block i (Nat.lt_of_lt_of_le hi hB)).trans (k.block i hi hg)⟩
theorem Sl.kept {g : Nat} {w w' : World} {q : IntKind} {p : Option Addr} {n : Nat} {X : Nat → Int} (h : Sl w q p n X) (k : Kept g w w') (hg : ∀ b o, p = some ⟨b, o, none⟩ → b ≠ g) : Sl w' q p n X := by
  rcases h with h | ⟨b, o, e, hc⟩
  · exact .inl h
  · exact .inr ⟨b, o, e, fun i hi => k.cell (hc i hi) (hg b o e)⟩
set_option maxHeartbeats 1000000 in
theorem awake_any (w : World) :
    Calls Try.prog 8 #[] w fun e w' => e = .returned (.bool true) ∧ Below w.heap.size w w' := by
  have p1 := fun (g : Nat) (w : World) (h : IsQ w g []) => push_any g [] 3 w h
  have p2 := fun (g : Nat) (w : World) (h : IsQ w g [3]) => push_any g [3] 1 w h
  have p3 := fun (g : Nat) (w : World) (h : IsQ w g [3, 1]) => push_any g [3, 1] 3 w h
  have p4 := fun (g : Nat) (w : World) (h : IsQ w g [3, 1]) => turn_some g 3 [1] w h
  rw [show pushE [] 3 = 0 from by decide, show pushL [] 3 = [3] from by decide] at p1
  rw [show pushE [3] 1 = 0 from by decide, show pushL [3] 1 = [3, 1] from by decide] at p2
  rw [show pushE [3, 1] 3 = 5 from by decide, show pushL [3, 1] 3 = [3, 1] from by decide] at p3
  have P1 := Lib.hid p1
  have P2 := Lib.hid p2
  have P3 := Lib.hid p3
  have P4 := Lib.hid p4
  clear p1 p2 p3 p4
  go_enter Try.func8, Try.ntmps8
  go_wp2_with fail
  refine (new_q _).mono ?_; rintro e w1 ⟨g, rfl, h1, hg1, hb1⟩
  have H1 := Lib.hid h1
  have HB1 := Lib.hid hb1
  clear h1 hb1
  go_wp2_with fail
  refine (P1.out g _ H1.out).mono ?_; rintro e w2 ⟨rfl, h2, hk2⟩
  have H2 := Lib.hid h2
  clear h2
  go_wp2_with fail
  refine (P2.out g _ H2.out).mono ?_; rintro e w3 ⟨rfl, h3, hk3⟩
  have H3 := Lib.hid h3
  clear h3
  go_wp2_with fail
  refine (P3.out g _ H3.out).mono ?_; rintro e w4 ⟨rfl, h4, hk4⟩
  have H4 := Lib.hid h4
  clear h4
  go_wp2_with fail
  refine (P4.out g _ H4.out).mono ?_; rintro e w5 ⟨rfl, h5, hk5⟩
  have H5 := Lib.hid h5
  clear h5
  go_wp2_with fail
  refine (pop_some g 1 [3] _ H5.out).mono ?_; rintro e w6 ⟨rfl, h6, hk6⟩
  have HB6 := Lib.hid (((((hk2.trans hk3).trans hk4).trans hk5).trans hk6).below HB1.out hg1 HB1.out.size)
  clear h6 hk2 hk3 hk4 hk5 hk6
  go_wp2
  go_ret
  exact ⟨rfl, HB6.out⟩
end Go.Proofs.Ythdmbnbamlmciaa
