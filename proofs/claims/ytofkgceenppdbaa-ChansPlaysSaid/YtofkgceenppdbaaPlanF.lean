/- plan's Own, Traps and Chan. -/
import Derived.Test.YtofkgceenppdbaaFind
namespace Go.Proofs.Ytofkgceenppdbaa
open Go.RowKit
set_option linter.unusedVariables false
set_option linter.unusedSimpArgs false
open Classical in
noncomputable def ownA (C : Cfg) (p : Int) : Int := if CkOk C ∧ 0 ≤ p ∧ p < C.nP then sumF (fP C) p.toNat else 0
open Classical in
noncomputable def ownB (C : Cfg) (p : Int) : Int := if CkOk C ∧ 0 ≤ p ∧ p < C.nP then C.q p.toNat else 0
open Classical in
noncomputable def ownE (C : Cfg) (p : Int) : Int := if CkOk C then if 0 ≤ p ∧ p < C.nP then 0 else 2 else ckE C
open Classical in
noncomputable def trA (C : Cfg) (p : Int) : Int := if CkOk C ∧ 0 ≤ p ∧ p < C.nP then sumF (fP C) p.toNat + C.q p.toNat else 0
open Classical in
noncomputable def trB (C : Cfg) (p : Int) : Int := if CkOk C ∧ 0 ≤ p ∧ p < C.nP then (C.s p.toNat + 2) / 3 else 0
open Classical in
noncomputable def chA (C : Cfg) (p : Int) : Int := if CkOk C ∧ 0 ≤ p ∧ p < C.nC then sumF (fP C) C.nP + sumF (fC C) p.toNat else 0
open Classical in
noncomputable def chB (C : Cfg) (p : Int) : Int := if CkOk C ∧ 0 ≤ p ∧ p < C.nC then fC C p.toNat else 0
open Classical in
noncomputable def chE (C : Cfg) (p : Int) : Int := if CkOk C then if 0 ≤ p ∧ p < C.nC then 0 else 2 else ckE C
theorem hit0 {C : Cfg} {p : Int} {k : Nat} (hk : k < 2 * C.nP + C.nC) (h : Hit C 0 p k) : ∃ i, i < C.nP ∧ k = 2 * i ∧ p = i := by
  obtain ⟨h1, h2⟩ := h
  unfold aK at h1
  unfold aI at h2
  by_cases hl : k < 2 * C.nP
  · rw [if_pos hl] at h1 h2
    exact ⟨k / 2, by omega, by omega, by omega⟩
  · rw [if_neg hl] at h1
    omega
theorem hit1 {C : Cfg} {p : Int} {k : Nat} (hk : k < 2 * C.nP + C.nC) (h : Hit C 1 p k) : ∃ i, i < C.nP ∧ k = 2 * i + 1 ∧ p = i := by
  obtain ⟨h1, h2⟩ := h
  unfold aK at h1
  unfold aI at h2
  by_cases hl : k < 2 * C.nP
  · rw [if_pos hl] at h1 h2
    exact ⟨k / 2, by omega, by omega, by omega⟩
  · rw [if_neg hl] at h1
    omega
theorem hit2 {C : Cfg} {p : Int} {k : Nat} (hk : k < 2 * C.nP + C.nC) (h : Hit C 2 p k) : ∃ i, i < C.nC ∧ k = 2 * C.nP + i ∧ p = i := by
  obtain ⟨h1, h2⟩ := h
  unfold aK at h1
  unfold aI at h2
  by_cases hl : k < 2 * C.nP
  · rw [if_pos hl] at h1
    omega
  · rw [if_neg hl] at h1 h2
    exact ⟨k - 2 * C.nP, by omega, by omega, by omega⟩
theorem find0 {C : Cfg} {p a b c : Int} (hok : CkOk C) (h : FindR C 0 p a b c) : a = ownA C p ∧ b = ownB C p ∧ c = ownE C p := by
  unfold ownA ownB ownE
  rw [if_pos hok]
  rcases h with ⟨k, hk, hh, _, rfl, rfl, rfl⟩ | ⟨hno, rfl, rfl, rfl⟩
  · obtain ⟨i, hi, rfl, rfl⟩ := hit0 hk hh
    have hc : (0 : Int) ≤ (i : Int) ∧ (i : Int) < C.nP := by omega
    rw [if_pos ⟨hok, hc⟩, if_pos ⟨hok, hc⟩, if_pos hc, Int.toNat_natCast, aO0 i (by omega), aM0 hi]
    exact ⟨rfl, rfl, rfl⟩
  · have hc : ¬ ((0 : Int) ≤ p ∧ p < C.nP) := fun hc => hno (2 * p.toNat) (by omega) ⟨aK0 (by omega), by rw [aI0 (by omega)]; omega⟩
    rw [if_neg (fun h => hc h.2), if_neg (fun h => hc h.2), if_neg hc]
    exact ⟨rfl, rfl, rfl⟩
theorem find1 {C : Cfg} {p a b c : Int} (hok : CkOk C) (h : FindR C 1 p a b c) : a = trA C p ∧ b = trB C p ∧ c = ownE C p := by
  unfold trA trB ownE
  rw [if_pos hok]
  rcases h with ⟨k, hk, hh, _, rfl, rfl, rfl⟩ | ⟨hno, rfl, rfl, rfl⟩
  · obtain ⟨i, hi, rfl, rfl⟩ := hit1 hk hh
    have hc : (0 : Int) ≤ (i : Int) ∧ (i : Int) < C.nP := by omega
    rw [if_pos ⟨hok, hc⟩, if_pos ⟨hok, hc⟩, if_pos hc, Int.toNat_natCast, aO1 hi, aM1 hi]
    exact ⟨rfl, rfl, rfl⟩
  · have hc : ¬ ((0 : Int) ≤ p ∧ p < C.nP) := fun hc => hno (2 * p.toNat + 1) (by omega) ⟨aK1 (by omega), by rw [aI1 (by omega)]; omega⟩
    rw [if_neg (fun h => hc h.2), if_neg (fun h => hc h.2), if_neg hc]
    exact ⟨rfl, rfl, rfl⟩
theorem find2 {C : Cfg} {p a b c : Int} (hok : CkOk C) (h : FindR C 2 p a b c) : a = chA C p ∧ b = chB C p ∧ c = chE C p := by
  unfold chA chB chE
  rw [if_pos hok]
  rcases h with ⟨k, hk, hh, _, rfl, rfl, rfl⟩ | ⟨hno, rfl, rfl, rfl⟩
  · obtain ⟨i, hi, rfl, rfl⟩ := hit2 hk hh
    have hc : (0 : Int) ≤ (i : Int) ∧ (i : Int) < C.nC := by omega
    rw [if_pos ⟨hok, hc⟩, if_pos ⟨hok, hc⟩, if_pos hc, Int.toNat_natCast, aO2 i, aM2]
    exact ⟨rfl, rfl, rfl⟩
  · have hc : ¬ ((0 : Int) ≤ p ∧ p < C.nC) := fun hc => hno (2 * C.nP + p.toNat) (by omega) ⟨aK2, by rw [aI2]; omega⟩
    rw [if_neg (fun h => hc h.2), if_neg (fun h => hc h.2), if_neg hc]
    exact ⟨rfl, rfl, rfl⟩
theorem own_bad {C : Cfg} (h : ¬ CkOk C) (p : Int) : ownA C p = 0 ∧ ownB C p = 0 ∧ ownE C p = ckE C ∧ trA C p = 0 ∧ trB C p = 0 ∧ chA C p = 0 ∧ chB C p = 0 ∧ chE C p = ckE C := by
  unfold ownA ownB ownE trA trB chA chB chE
  simp [h]
def Big (C : Cfg) : Prop := C.nP ≤ 1000000 ∧ C.nW ≤ 1000000 ∧ C.nC ≤ 1000000
theorem find_own (C : Cfg) (ly : Lay) (p : Int) (w : World) (hI : IsC w C ly) (hN : Big C) :
    Calls Try.prog 53 #[.agg (cfgV C ly), .int .i64 0, .int .i64 p] w fun e w' => e = .returned (.tuple #[.int .i64 (ownA C p), .int .i64 (ownB C p), .int .i64 (ownE C p)]) ∧ Below w.heap.size w w' := by
  by_cases hok : CkOk C
  · refine (find_any C ly 0 p w hI hN hok).mono ?_
    rintro e w' ⟨a, b, c, hr, rfl, hb⟩
    obtain ⟨rfl, rfl, rfl⟩ := find0 hok hr
    exact ⟨rfl, hb⟩
  · obtain ⟨e1, e2, e3, _⟩ := own_bad hok p
    rw [e1, e2, e3]
    exact find_bad C ly 0 p w hI hN hok
theorem find_traps (C : Cfg) (ly : Lay) (p : Int) (w : World) (hI : IsC w C ly) (hN : Big C) :
    Calls Try.prog 53 #[.agg (cfgV C ly), .int .i64 1, .int .i64 p] w fun e w' => e = .returned (.tuple #[.int .i64 (trA C p), .int .i64 (trB C p), .int .i64 (ownE C p)]) ∧ Below w.heap.size w w' := by
  by_cases hok : CkOk C
  · refine (find_any C ly 1 p w hI hN hok).mono ?_
    rintro e w' ⟨a, b, c, hr, rfl, hb⟩
    obtain ⟨rfl, rfl, rfl⟩ := find1 hok hr
    exact ⟨rfl, hb⟩
  · obtain ⟨_, _, e3, e1, e2, _⟩ := own_bad hok p
    rw [e1, e2, e3]
    exact find_bad C ly 1 p w hI hN hok
theorem find_chan (C : Cfg) (ly : Lay) (p : Int) (w : World) (hI : IsC w C ly) (hN : Big C) :
    Calls Try.prog 53 #[.agg (cfgV C ly), .int .i64 2, .int .i64 p] w fun e w' => e = .returned (.tuple #[.int .i64 (chA C p), .int .i64 (chB C p), .int .i64 (chE C p)]) ∧ Below w.heap.size w w' := by
  by_cases hok : CkOk C
  · refine (find_any C ly 2 p w hI hN hok).mono ?_
    rintro e w' ⟨a, b, c, hr, rfl, hb⟩
    obtain ⟨rfl, rfl, rfl⟩ := find2 hok hr
    exact ⟨rfl, hb⟩
  · obtain ⟨_, _, _, _, _, e1, e2, e3⟩ := own_bad hok p
    rw [e1, e2, e3]
    exact find_bad C ly 2 p w hI hN hok
end Go.Proofs.Ytofkgceenppdbaa
