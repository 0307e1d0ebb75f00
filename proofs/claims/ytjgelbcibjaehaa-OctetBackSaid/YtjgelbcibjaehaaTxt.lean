/- Helper text of this seat (Txt): contracts of functions of the given program and of its references, each told by its theorem. -/
import Derived.Test.YtjgelbcibjaehaaRdr
import Derived.Deep.QuietTactic
import Derived.BigQuiet
namespace Go.Proofs.Ytjgelbcibjaehaa
open Go.RowKit
set_option linter.unusedVariables false
set_option linter.unusedSimpArgs false
def isPre (s p : ByteArray) : Bool := decide (p.size ≤ s.size) && (s.extract 0 p.size).toList == p.toList
theorem hasPre_any (s p : ByteArray) (w : World) (hs : s.size ≤ 140737488351232) (hp : p.size ≤ 140737488351232) :
    Calls Try.prog 22 #[.string s, .string p] w fun e w' => e = .returned (.bool (isPre s p)) ∧ w' = w := by
  by_cases h : p.size ≤ s.size
  · have e : isPre s p = ((s.extract 0 p.size).toList == p.toList) := by simp [isPre, h]
    have E := Lib.hid e
    clear e
    have hd : decide ((p.size : Int) ≤ s.size) = true := by simp; omega
    have hd2 : (p.size : Int) ≤ s.size := by omega
    go_enter Try.func22, Try.ntmps22
    go_wp2
    go_ret
    exact ⟨by rw [E.out]; rfl, rfl⟩
  · have e : isPre s p = false := by simp [isPre, h]
    have E := Lib.hid e
    clear e
    have hd : decide ((p.size : Int) ≤ s.size) = false := by simp; omega
    have hd2 : ¬ (p.size : Int) ≤ s.size := by omega
    go_enter Try.func22, Try.ntmps22
    go_wp2
    go_ret
    exact ⟨by rw [E.out]; rfl, rfl⟩
/-- what is left behind a prefix -/
def cutS (s p : ByteArray) : ByteArray := if isPre s p then s.extract p.size s.size else s
theorem pre_le {s p : ByteArray} (h : isPre s p = true) : p.size ≤ s.size := by
  simp [isPre] at h
  exact h.1
theorem cutl_any (s p : ByteArray) (w : World) (hs : s.size ≤ 140737488351232) (hp : p.size ≤ 140737488351232) :
    Calls Try.prog 21 #[.string s, .string p] w fun e w' => e = .returned (.tuple #[.string (cutS s p), .bool (isPre s p)]) ∧ w' = w := by
  cases h : isPre s p
  · have E := Lib.hid (show cutS s p = s by simp [cutS, h])
    go_enter Try.func21, Try.ntmps21
    go_wp2_with (go_at_call 22; refine (hasPre_any _ _ _ hs hp).mono ?_; rintro e w1 ⟨rfl, rfl⟩)
    go_ret2
    exact ⟨by rw [E.out]; rfl, rfl⟩
  · have E := Lib.hid (show cutS s p = s.extract p.size s.size by simp [cutS, h])
    have hle := pre_le h
    go_enter Try.func21, Try.ntmps21
    go_wp2_with (go_at_call 22; refine (hasPre_any _ _ _ hs hp).mono ?_; rintro e w1 ⟨rfl, rfl⟩)
    go_ret2
    exact ⟨by rw [E.out]; rfl, rfl⟩
theorem cut_any (s p : ByteArray) (w : World) (hs : s.size ≤ 140737488351232) (hp : p.size ≤ 140737488351232) :
    Calls Try.prog 20 #[.string s, .string p] w fun e w' => e = .returned (.tuple #[.string (cutS s p), .bool (isPre s p)]) ∧ w' = w := by
  go_enter Try.func20, Try.ntmps20
  go_wp2_with (go_at_call 21; refine (cutl_any _ _ _ hs hp).mono ?_; rintro e w1 ⟨rfl, rfl⟩)
  go_ret2
  exact ⟨rfl, rfl⟩
theorem text_nil (p : ByteArray) (w : World) :
    Calls Try.prog 15 #[.pointer none, .string p] w fun e w' => e = .returned (.bool false) ∧ w' = w := by
  go_enter Try.func15, Try.ntmps15
  go_wp2_with (go_at_call 13; refine (fine_nil _).mono ?_; rintro e w1 ⟨rfl, rfl⟩)
  go_ret
  exact ⟨rfl, rfl⟩
/-- what a reader holds behind Text -/
def txS (s : ByteArray) (f : Bool) (p : ByteArray) : ByteArray := if f then cutS s p else s
def txF (s : ByteArray) (f : Bool) (p : ByteArray) : Bool := f && isPre s p
theorem text_any (g : Nat) (s : ByteArray) (f : Bool) (p : ByteArray) (w : World) (h : IsR w g s f) (hs : s.size ≤ 140737488351232) (hp : p.size ≤ 140737488351232) :
    Calls Try.prog 15 #[.pointer (some ⟨g, 0, none⟩), .string p] w fun e w' => e = .returned (.bool (txF s f p)) ∧ IsR w' g (txS s f p) (txF s f p) ∧ Kept g w w' := by
  obtain ⟨h0, h1, h2, h3⟩ := h.cells
  cases f
  · go_enter Try.func15, Try.ntmps15
    go_wp2_with (go_at_call 13; refine (fine_any _ _ _ _ h).mono ?_; rintro e w1 ⟨rfl, rfl⟩)
    go_ret
    exact ⟨rfl, h, Kept.refl _ _⟩
  · go_enter Try.func15, Try.ntmps15
    go_wp2_with (first | (go_at_call 13; refine (fine_any _ _ _ _ h).mono ?_; rintro e w1 ⟨rfl, rfl⟩) | (go_at_call 20; refine (cut_any _ _ _ hs hp).mono ?_; rintro e w1 ⟨rfl, rfl⟩))
    go_ret
    exact ⟨rfl, (h.set0 _).set1 _, ((Kept.refl _ _).setCell _ _).setCell _ _⟩
end Go.Proofs.Ytjgelbcibjaehaa
