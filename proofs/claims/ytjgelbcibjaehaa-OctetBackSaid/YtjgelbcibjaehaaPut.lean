/- Helper text of this seat (Put): contracts of functions of the given program and of its references, each told by its theorem. -/
import Derived.Test.YtjgelbcibjaehaaNum
import Derived.Test.YtjgelbcibjaehaaPOctetPutx1
import Derived.Test.YtjgelbcibjaehaaPOctetReadsx2
namespace Go.Proofs.Ytjgelbcibjaehaa
open Go.RowKit Go.Proofs.YtjgelbcibjaehaaW.PrintWords Go.Proofs.YtjgelbcibjaehaaW.PrintMore
set_option linter.unusedVariables false
set_option linter.unusedSimpArgs false
/-- the bytes of a number, of so many -/
def bw : Nat → Int → List Int
  | 0, _ => []
  | k + 1, n => bw k (n / 256) ++ [n % 256]
def pBad (n w : Int) : Bool := decide (w < 1) || decide (4 < w) || decide (256 ^ w.toNat ≤ n)
def pS (n w : Int) : ByteArray := if pBad n w then ⟨#[]⟩ else strOfNums (bw w.toNat n)
def pE (n w : Int) : Int := if pBad n w then 2 else 0
theorem put_f (n w : Int) (h0 : 0 ≤ n) (h1 : n < 4294967296) : POctetPut.octet_Put.f 8 n w = some (pS n w, pE n w) := by
  have hw : IntKind.u64.wrap n = n := IntWalk.u64_in _ (by omega)
  by_cases a : w < 1
  · simp [POctetPut.octet_Put.f, POctetPut.octet_Put.j0, pS, pE, pBad, a]
  by_cases b : 4 < w
  · simp [POctetPut.octet_Put.f, POctetPut.octet_Put.j0, pS, pE, pBad, a, b]
  rcases (show w = 1 ∨ w = 2 ∨ w = 3 ∨ w = 4 by omega) with rfl | rfl | rfl | rfl
  · by_cases c : 256 ≤ n
    · have : n / 256 > 0 := by omega
      simp [POctetPut.octet_Put.f, POctetPut.octet_Put.j0, pS, pE, pBad, wrap64, hw, shr, this, c, IntKind.bits]
    · have : ¬ n / 256 > 0 := by omega
      simp [POctetPut.octet_Put.f, POctetPut.octet_Put.j0, POctetPut.octet_Put.l0, pS, pE, pBad, wrap64, hw, shr, this, c, IntKind.bits, bw, Int.ediv_ediv]
  · by_cases c : 65536 ≤ n
    · have : n / 65536 > 0 := by omega
      simp [POctetPut.octet_Put.f, POctetPut.octet_Put.j0, pS, pE, pBad, wrap64, hw, shr, this, c, IntKind.bits]
    · have : ¬ n / 65536 > 0 := by omega
      simp [POctetPut.octet_Put.f, POctetPut.octet_Put.j0, POctetPut.octet_Put.l0, pS, pE, pBad, wrap64, hw, shr, this, c, IntKind.bits, bw, Int.ediv_ediv]
  · by_cases c : 16777216 ≤ n
    · have : n / 16777216 > 0 := by omega
      simp [POctetPut.octet_Put.f, POctetPut.octet_Put.j0, pS, pE, pBad, wrap64, hw, shr, this, c, IntKind.bits]
    · have : ¬ n / 16777216 > 0 := by omega
      simp [POctetPut.octet_Put.f, POctetPut.octet_Put.j0, POctetPut.octet_Put.l0, pS, pE, pBad, wrap64, hw, shr, this, c, IntKind.bits, bw, Int.ediv_ediv]
  · have c : ¬ 4294967296 ≤ n := by omega
    have : ¬ n / 4294967296 > 0 := by omega
    simp [POctetPut.octet_Put.f, POctetPut.octet_Put.j0, POctetPut.octet_Put.l0, pS, pE, pBad, wrap64, hw, shr, this, c, IntKind.bits, bw, Int.ediv_ediv]
theorem str_one (x : Int) (s : List Int) : strOfNums [x] ++ strOfNums s = strOfNums (x :: s) := by
  simp [strOfNums]
  rfl
theorem rput_f (n w : Int) (h0 : 0 ≤ n) (h1 : n < 4294967296) : POctetPut.prioryref05_Put.f 8 n w = some (pS n w, pE n w) := by
  by_cases a : w < 1
  · simp [POctetPut.prioryref05_Put.f, POctetPut.prioryref05_Put.j0, pS, pE, pBad, a]
  by_cases b : 4 < w
  · simp [POctetPut.prioryref05_Put.f, POctetPut.prioryref05_Put.j0, pS, pE, pBad, a, b]
  have e0 : (⟨#[]⟩ : ByteArray) = strOfNums [] := rfl
  have t1 : n.tmod 256 = n % 256 := Int.tmod_eq_emod_of_nonneg h0
  have d1 : n.tdiv 256 = n / 256 := Int.tdiv_eq_ediv_of_nonneg h0
  have m1 : n / 256 % 4294967296 = n / 256 := by omega
  have t2 : (n / 256).tmod 256 = n / 256 % 256 := Int.tmod_eq_emod_of_nonneg (by omega)
  have d2 : (n / 256).tdiv 256 = n / 65536 := by rw [Int.tdiv_eq_ediv_of_nonneg (by omega)]; omega
  have m2 : n / 65536 % 4294967296 = n / 65536 := by omega
  have t3 : (n / 65536).tmod 256 = n / 65536 % 256 := Int.tmod_eq_emod_of_nonneg (by omega)
  have d3 : (n / 65536).tdiv 256 = n / 16777216 := by rw [Int.tdiv_eq_ediv_of_nonneg (by omega)]; omega
  have m3 : n / 16777216 % 4294967296 = n / 16777216 := by omega
  have t4 : (n / 16777216).tmod 256 = n / 16777216 % 256 := Int.tmod_eq_emod_of_nonneg (by omega)
  have d4 : (n / 16777216).tdiv 256 = 0 := by rw [Int.tdiv_eq_ediv_of_nonneg (by omega)]; omega
  rcases (show w = 1 ∨ w = 2 ∨ w = 3 ∨ w = 4 by omega) with rfl | rfl | rfl | rfl
  · by_cases c : 256 ≤ n
    · have : ¬ n / 256 = 0 := by omega
      simp [POctetPut.prioryref05_Put.f, POctetPut.prioryref05_Put.j0, POctetPut.prioryref05_Put.l0, pS, pE, pBad, wrap64, this, c, t1, d1, m1, t2, d2, m2, t3, d3, m3, t4, d4, e0, str_one, strOfNums_size]
    · have : n / 256 = 0 := by omega
      simp [POctetPut.prioryref05_Put.f, POctetPut.prioryref05_Put.j0, POctetPut.prioryref05_Put.l0, pS, pE, pBad, wrap64, this, c, t1, d1, m1, t2, d2, m2, t3, d3, m3, t4, d4, e0, str_one, strOfNums_size, bw, Int.ediv_ediv]
  · by_cases c : 65536 ≤ n
    · have : ¬ n / 65536 = 0 := by omega
      simp [POctetPut.prioryref05_Put.f, POctetPut.prioryref05_Put.j0, POctetPut.prioryref05_Put.l0, pS, pE, pBad, wrap64, this, c, t1, d1, m1, t2, d2, m2, t3, d3, m3, t4, d4, e0, str_one, strOfNums_size]
    · have : n / 65536 = 0 := by omega
      simp [POctetPut.prioryref05_Put.f, POctetPut.prioryref05_Put.j0, POctetPut.prioryref05_Put.l0, pS, pE, pBad, wrap64, this, c, t1, d1, m1, t2, d2, m2, t3, d3, m3, t4, d4, e0, str_one, strOfNums_size, bw, Int.ediv_ediv]
  · by_cases c : 16777216 ≤ n
    · have : ¬ n / 16777216 = 0 := by omega
      simp [POctetPut.prioryref05_Put.f, POctetPut.prioryref05_Put.j0, POctetPut.prioryref05_Put.l0, pS, pE, pBad, wrap64, this, c, t1, d1, m1, t2, d2, m2, t3, d3, m3, t4, d4, e0, str_one, strOfNums_size]
    · have : n / 16777216 = 0 := by omega
      simp [POctetPut.prioryref05_Put.f, POctetPut.prioryref05_Put.j0, POctetPut.prioryref05_Put.l0, pS, pE, pBad, wrap64, this, c, t1, d1, m1, t2, d2, m2, t3, d3, m3, t4, d4, e0, str_one, strOfNums_size, bw, Int.ediv_ediv]
  · have c : ¬ 4294967296 ≤ n := by omega
    simp [POctetPut.prioryref05_Put.f, POctetPut.prioryref05_Put.j0, POctetPut.prioryref05_Put.l0, pS, pE, pBad, wrap64, c, t1, d1, m1, t2, d2, m2, t3, d3, m3, t4, d4, e0, str_one, strOfNums_size, bw, Int.ediv_ediv]
theorem put_any (n w : Int) (h0 : 0 ≤ n) (h1 : n < 4294967296) (W : World) :
    Calls Try.prog 8 #[.int .u32 n, .int .i64 w] W fun e W' => e = .returned (.tuple #[.string (pS n w), .int .i64 (pE n w)]) ∧ Below W.heap.size W W' :=
  POctetPut.octet_Put.calls 8 n w _ _ W (put_f n w h0 h1)
theorem rput_any (n w : Int) (h0 : 0 ≤ n) (h1 : n < 4294967296) (W : World) :
    Calls Try.prog 9 #[.int .u32 n, .int .i64 w] W fun e W' => e = .returned (.tuple #[.string (pS n w), .int .i64 (pE n w)]) ∧ Below W.heap.size W W' :=
  POctetPut.prioryref05_Put.calls 8 n w _ _ W (rput_f n w h0 h1)
end Go.Proofs.Ytjgelbcibjaehaa
