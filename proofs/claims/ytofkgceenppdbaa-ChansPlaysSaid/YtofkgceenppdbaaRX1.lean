/- The reference's channels: New, May, Next, Room. -/
import Derived.Test.YtofkgceenppdbaaRefR
import Derived.Test.YtofkgceenppdbaaAppK
import Derived.Test.YtofkgceenppdbaaXAll
namespace Go.Proofs.Ytofkgceenppdbaa
open Go.RowKit
set_option linter.unusedVariables false
set_option linter.unusedSimpArgs false
/-- one result: a struct in memory -/
theorem res_c {P : Program} {fn : Func} {p : Tmp} {ty : TypeId} (h : fn.results = #[.cell p ty]) (tmps : Array Value) (w : World) (g : Nat) (t : TypeId) (cs : Array Value) (fr : Nat × Nat) (d : TypeDesc)
    (hp : tmps.getD p undef = .pointer (some ⟨g, 0, none⟩)) (hg : w.heap[g]? = some (.cells cs t fr))
    (hu : P.underlying ty = some d) (hd : (match d with | .struct _ | .array _ _ => true | _ => false) = true) (hi : (P.info? ty).map (·.size) = some cs.size) :
    (results fn tmps).run P w = .ok (.agg cs) w := by
  have hp' : tmps[p]?.getD undef = .pointer (some ⟨g, 0, none⟩) := by simpa using hp
  simp [results, h, hp', asAddr, run_loadVar_row w g t ty cs fr d hg hu hd hi]
theorem keR : KElem Try.prog 59 99 (.agg #[.int .i64 0, .int .i64 0, .slice none 0 0, .int .i64 0]) 4 48 := ⟨Try.underlying59, by kernel_rfl, by rfl, by decide, by decide⟩
theorem rnew_ok (c d : Nat) (w : World) (hc : 1 ≤ c) (hc8 : c ≤ 8) (hd : 1 ≤ d) (hd8 : d ≤ 8) :
    Calls Try.prog 48 #[.int .i64 c, .int .i64 d] w fun e w' => e = .returned (.tuple #[.agg #[.int .i64 c, .int .i64 d, .slice none 0 0, .int .i64 0], .int .i64 0]) ∧ Below w.heap.size w w' := by
  have k1 : ¬ (c : Int) < 1 := by omega
  have k2 : ¬ (8 : Int) < c := by omega
  have k3 : ¬ (d : Int) < 1 := by omega
  have k4 : ¬ (8 : Int) < d := by omega
  go_enter Try.func48, Try.ntmps48
  go_wp2
  go_returns
  exact ⟨rfl, by go_grown⟩
/-- the reference's ring i: its cells -/
def rf (C : Cfg) (q : Nat → Option Addr) (m cp out : Nat → Nat) (i r : Nat) : Value :=
  if r = 0 then .int .i64 (C.cc i) else if r = 1 then .int .i64 (C.cw i) else if r = 2 then .slice (q i) (m i) (cp i) else .int .i64 (out i)
theorem rf_one (C : Cfg) (q : Nat → Option Addr) (m cp out : Nat → Nat) (i r : Nat) : (rf C q m cp out i r).oneCell' = true := by
  unfold rf
  split
  · rfl
  · split
    · rfl
    · split <;> rfl
def rf0 (C : Cfg) : Nat → Nat → Value := rf C (fun _ => none) (fun _ => 0) (fun _ => 0) (fun _ => 0)
/-- what May answers, of the reference -/
theorem rmay_any (C : Cfg) (pC p : Option Addr) (cC n cap : Nat) (part ch : Int) (s : Bool) (w : World) (hC : Sl4 w pC C.nC C.cf C.ct C.cc C.cw) (h16 : C.nC ≤ 16) :
    Calls Try.prog 26 #[.agg #[.slice pC C.nC cC, .slice p n cap], .int .i64 part, .int .i64 ch, .bool s] w fun e w' => e = .returned (.int .i64 (mayE C part ch s)) ∧ Below w.heap.size w w' := by
  unfold mayE
  by_cases h1 : ch < 0
  · rw [if_pos (.inl h1)]
    have d1 : decide (ch < 0) = true := decide_eq_true h1
    go_enter Try.func26, Try.ntmps26
    go_wp2
    go_ret
    exact ⟨rfl, by go_grown⟩
  by_cases h2 : C.nC ≤ ch
  · rw [if_pos (.inr h2)]
    have d1 : decide (ch < 0) = false := decide_eq_false h1
    have d2 : decide ((C.nC : Int) ≤ ch) = true := decide_eq_true h2
    go_enter Try.func26, Try.ntmps26
    go_wp2
    go_ret
    exact ⟨rfl, by go_grown⟩
  rw [if_neg (by omega)]
  obtain ⟨i, rfl⟩ : ∃ i : Nat, ch = i := ⟨ch.toNat, by omega⟩
  have hi : i < C.nC := by omega
  rw [Int.toNat_natCast]
  rcases hC with h0 | ⟨b, o, rfl, hc⟩
  · omega
  obtain ⟨c0, c1, _, _⟩ := hc i hi
  have hbl := block_lt_of_cell c0
  have d1 : ¬ (i : Int) < 0 := by omega
  have d2 : ¬ (C.nC : Int) ≤ i := by omega
  have d3 : (i : Int) < C.nC := by omega
  clear hc
  cases s
  · by_cases hp : part = C.ct i
    · have e1 : (part == C.ct i) = true := by simp [hp]
      have e2 : (part != C.ct i) = false := by simp [hp]
      rw [if_neg (by simp [hp])]
      go_enter Try.func26, Try.ntmps26
      go_wp2
      go_ret
      exact ⟨rfl, by go_grown⟩
    · have e1 : (part == C.ct i) = false := beq_eq_false_iff_ne.2 hp
      have e2 : (part != C.ct i) = true := by rw [bne, e1]; rfl
      rw [if_pos (by simp [hp])]
      go_enter Try.func26, Try.ntmps26
      go_wp2
      go_ret
      exact ⟨rfl, by go_grown⟩
  · by_cases hp : part = C.cf i
    · have e1 : (part == C.cf i) = true := by simp [hp]
      have e2 : (part != C.cf i) = false := by simp [hp]
      rw [if_neg (by simp [hp])]
      go_enter Try.func26, Try.ntmps26
      go_wp2
      go_ret
      exact ⟨rfl, by go_grown⟩
    · have e1 : (part == C.cf i) = false := beq_eq_false_iff_ne.2 hp
      have e2 : (part != C.cf i) = true := by rw [bne, e1]; rfl
      rw [if_pos (by simp [hp])]
      go_enter Try.func26, Try.ntmps26
      go_wp2
      go_ret
      exact ⟨rfl, by go_grown⟩
end Go.Proofs.Ytofkgceenppdbaa
