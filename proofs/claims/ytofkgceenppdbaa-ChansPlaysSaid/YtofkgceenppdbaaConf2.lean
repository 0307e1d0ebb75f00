/- A configuration in memory; is it one that may be, but for its frames. -/
import Derived.Test.YtofkgceenppdbaaConf1
import Derived.Outline
namespace Go.Proofs.Ytofkgceenppdbaa
open Go.RowKit
set_option linter.unusedVariables false
set_option linter.unusedSimpArgs false
/-- a row of pairs, of fours, as it lies -/
def Sl2 (w : World) (p : Option Addr) (n : Nat) (X Y : Nat → Int) : Prop := n = 0 ∨ ∃ b o, p = some ⟨b, o, none⟩ ∧ ∀ i, i < n → w.cell? ⟨b, o + i * 2, none⟩ = some (.int .i64 (X i)) ∧ w.cell? ⟨b, o + i * 2 + 1, none⟩ = some (.int .i64 (Y i))
def Sl4 (w : World) (p : Option Addr) (n : Nat) (X Y Z U : Nat → Int) : Prop := n = 0 ∨ ∃ b o, p = some ⟨b, o, none⟩ ∧ ∀ i, i < n → w.cell? ⟨b, o + i * 4, none⟩ = some (.int .i64 (X i)) ∧ w.cell? ⟨b, o + i * 4 + 1, none⟩ = some (.int .i64 (Y i)) ∧ w.cell? ⟨b, o + i * 4 + 2, none⟩ = some (.int .i64 (Z i)) ∧ w.cell? ⟨b, o + i * 4 + 3, none⟩ = some (.int .i64 (U i))
theorem Sl2.below {w w' : World} {p : Option Addr} {n : Nat} {X Y : Nat → Int} (h : Sl2 w p n X Y) (hb : Below w.heap.size w w') : Sl2 w' p n X Y := by
  rcases h with h | ⟨b, o, e, h⟩
  · exact .inl h
  · exact .inr ⟨b, o, e, fun i hi => ⟨keepc hb (h i hi).1, keepc hb (h i hi).2⟩⟩
theorem Sl4.below {w w' : World} {p : Option Addr} {n : Nat} {X Y Z U : Nat → Int} (h : Sl4 w p n X Y Z U) (hb : Below w.heap.size w w') : Sl4 w' p n X Y Z U := by
  rcases h with h | ⟨b, o, e, h⟩
  · exact .inl h
  · exact .inr ⟨b, o, e, fun i hi => ⟨keepc hb (h i hi).1, keepc hb (h i hi).2.1, keepc hb (h i hi).2.2.1, keepc hb (h i hi).2.2.2⟩⟩
/-- a configuration -/
structure Cfg where
  nP : Nat
  nW : Nat
  nC : Nat
  q : Nat → Int
  s : Nat → Int
  wp : Nat → Int
  wt : Nat → Int
  cf : Nat → Int
  ct : Nat → Int
  cc : Nat → Int
  cw : Nat → Int
/-- where its rows lie -/
structure Lay where
  pP : Option Addr
  cP : Nat
  pW : Option Addr
  cW : Nat
  pC : Option Addr
  cC : Nat
def cfgV (C : Cfg) (l : Lay) : Array Value := #[.slice l.pP C.nP l.cP, .slice l.pW C.nW l.cW, .slice l.pC C.nC l.cC]
structure IsC (w : World) (C : Cfg) (l : Lay) : Prop where
  P : Sl2 w l.pP C.nP C.q C.s
  W : Sl2 w l.pW C.nW C.wp C.wt
  C : Sl4 w l.pC C.nC C.cf C.ct C.cc C.cw
theorem IsC.below {w w' : World} {C : Cfg} {l : Lay} (h : IsC w C l) (hb : Below w.heap.size w w') : IsC w' C l := ⟨h.P.below hb, h.W.below hb, h.C.below hb⟩
def okN (C : Cfg) : Bool := inB C.nP 1 8 && inB C.nW 1 32 && decide (C.nC ≤ 16)
def okP (C : Cfg) (i : Nat) : Bool := inB (C.q i) 4 256 && inB (C.s i) 1 8
def okW (C : Cfg) (i : Nat) : Bool := inB (C.wp i) 0 ((C.nP : Int) - 1) && inB (C.wt i) 1 255
def okC (C : Cfg) (i : Nat) : Bool := inB (C.cf i) 0 ((C.nP : Int) - 1) && inB (C.ct i) 0 ((C.nP : Int) - 1) && (C.cf i != C.ct i) && inB (C.cc i) 1 8 && inB (C.cw i) 1 8
/-- has a partition a window among the first k? -/
def seenB (C : Cfg) (k i : Nat) : Bool := (List.range k).any fun j => C.wp j == (i : Int)
def NumOk (C : Cfg) : Prop := okN C = true ∧ (∀ i, i < C.nP → okP C i = true) ∧ (∀ i, i < C.nW → okW C i = true) ∧ (∀ i, i < C.nP → seenB C C.nW i = true) ∧ ∀ i, i < C.nC → okC C i = true
open Classical in
/-- what numbers answers -/
noncomputable def numE (C : Cfg) : Int := if NumOk C then 0 else 2
theorem numE_ok {C : Cfg} (h : NumOk C) : numE C = 0 := if_pos h
theorem numE_bad {C : Cfg} (h : ¬ NumOk C) : numE C = 2 := if_neg h
/-- eight marks -/
def sc (f : Nat → Bool) : Array Value := #[.bool (f 0), .bool (f 1), .bool (f 2), .bool (f 3), .bool (f 4), .bool (f 5), .bool (f 6), .bool (f 7)]
theorem sc_at (f : Nat → Bool) (i : Nat) (h : i < 8) : (sc f)[i]? = some (.bool (f i)) := by
  match i, h with
  | 0, _ => rfl
  | 1, _ => rfl
  | 2, _ => rfl
  | 3, _ => rfl
  | 4, _ => rfl
  | 5, _ => rfl
  | 6, _ => rfl
  | 7, _ => rfl
theorem sc_set (f : Nat → Bool) (i : Nat) (h : i < 8) : (sc f).setIfInBounds i (.bool true) = sc fun j => j == i || f j := by
  match i, h with
  | 0, _ => rfl
  | 1, _ => rfl
  | 2, _ => rfl
  | 3, _ => rfl
  | 4, _ => rfl
  | 5, _ => rfl
  | 6, _ => rfl
  | 7, _ => rfl
theorem seen_step (C : Cfg) (k p : Nat) (h : C.wp k = p) : (fun j : Nat => j == p || seenB C k j) = seenB C (k + 1) := by
  funext j
  unfold seenB
  rw [List.range_succ, List.any_append]
  simp only [List.any_cons, List.any_nil, Bool.or_false, h]
  rw [Bool.or_comm]
  congr 1
  by_cases e : j = p
  · subst e; simp
  · have : ¬ (p : Int) = j := by omega
    rw [beq_eq_false_iff_ne.2 e, beq_eq_false_iff_ne.2 this]
/-- a row of marks lacks one -/
def Lacks (f : Nat → Bool) (n : Nat) (w : World) (e : Ending) (w' : World) : Prop := ∃ k : Nat, k < n ∧ f k = false ∧ e = .returned (.int .i64 k) ∧ w' = w
theorem index_lacks (b : Nat) (f : Nat → Bool) (n : Nat) (w : World) (h : ∀ i, i < n → w.cell? ⟨b, i, none⟩ = some (.bool (f i))) (hn : n ≤ 8) (hx : ∃ k, k < n ∧ f k = false) :
    Calls Try.prog 69 #[.slice (some ⟨b, 0, none⟩) n 8, .bool false] w (Lacks f n w) := by
  have H := Lib.hid h
  have HX := Lib.hid hx
  clear h hx
  go_enter Try.func69, Try.ntmps69
  go_wp2
  go_loop [8] (fun i => ∃ k : Nat, k ≤ n ∧ i = .int .i64 k ∧ Hid (∀ j, j < k → f j = true)) (fun i => n - (intOf i).toNat)
  case atStart => exact ⟨0, by omega, rfl, Lib.hid fun j hj => by omega⟩
  case round =>
    obtain ⟨k, hk, rfl, HF⟩ := hrel
    by_cases hkn : k < n
    · have hkn' : (k : Int) < n := by omega
      have c1 := H.out k hkn
      cases hf : f k with
      | false =>
        rw [hf] at c1
        have HFK := Lib.hid hf
        clear hf
        go_wp2
        go_ret
        exact ⟨k, hkn, HFK.out, rfl, rfl⟩
      | true =>
        rw [hf] at c1
        have HFK := Lib.hid hf
        clear hf
        go_wp2
        refine ⟨⟨k + 1, by omega, by go_num, Lib.hid fun j hj => ?_⟩, by simp [intOf]; omega⟩
        by_cases e : j = k
        · rw [e]; exact HFK.out
        · exact HF.out j (by omega)
    · exfalso
      obtain ⟨j, hj, hjf⟩ := HX.out
      rw [HF.out j (by omega)] at hjf
      cases hjf
theorem index_all (b : Nat) (f : Nat → Bool) (n : Nat) (w : World) (h : ∀ i, i < n → w.cell? ⟨b, i, none⟩ = some (.bool (f i))) (hn : n ≤ 8) (hx : ∀ k, k < n → f k = true) :
    Calls Try.prog 69 #[.slice (some ⟨b, 0, none⟩) n 8, .bool false] w fun e w' => e = .returned (.int .i64 (-1)) ∧ w' = w := by
  have H := Lib.hid h
  have HX := Lib.hid hx
  clear h hx
  go_enter Try.func69, Try.ntmps69
  go_wp2
  go_loop [8] (fun i => ∃ k : Nat, k ≤ n ∧ i = .int .i64 k) (fun i => n - (intOf i).toNat)
  case atStart => exact ⟨0, by omega, rfl⟩
  case round =>
    obtain ⟨k, hk, rfl⟩ := hrel
    by_cases hkn : k < n
    · have hkn' : (k : Int) < n := by omega
      have c1 := H.out k hkn
      rw [HX.out k hkn] at c1
      go_wp2
      refine ⟨⟨k + 1, by omega, by go_num⟩, by simp [intOf]; omega⟩
    · have hkn' : ¬ (k : Int) < n := by omega
      go_wp2
      go_ret
      exact ⟨rfl, rfl⟩
theorem contains_lacks (b : Nat) (f : Nat → Bool) (n : Nat) (w : World) (h : ∀ i, i < n → w.cell? ⟨b, i, none⟩ = some (.bool (f i))) (hn : n ≤ 8) (hx : ∃ k, k < n ∧ f k = false) :
    Calls Try.prog 63 #[.slice (some ⟨b, 0, none⟩) n 8, .bool false] w fun e w' => e = .returned (.bool true) ∧ w' = w := by
  have HK := Lib.hid (index_lacks b f n w h hn hx)
  clear h hx
  go_enter Try.func63, Try.ntmps63
  go_wp2_with fail
  refine HK.out.mono ?_; rintro e w1 ⟨k, _, _, rfl, rfl⟩
  have h0 : (0 : Int) ≤ (k : Int) := by omega
  go_wp2
  go_ret
  exact ⟨rfl, rfl⟩
theorem contains_all (b : Nat) (f : Nat → Bool) (n : Nat) (w : World) (h : ∀ i, i < n → w.cell? ⟨b, i, none⟩ = some (.bool (f i))) (hn : n ≤ 8) (hx : ∀ k, k < n → f k = true) :
    Calls Try.prog 63 #[.slice (some ⟨b, 0, none⟩) n 8, .bool false] w fun e w' => e = .returned (.bool false) ∧ w' = w := by
  have HK := Lib.hid (index_all b f n w h hn hx)
  clear h hx
  go_enter Try.func63, Try.ntmps63
  go_wp2_with fail
  refine HK.out.mono ?_; rintro e w1 ⟨rfl, rfl⟩
  go_wp2
  go_ret
  exact ⟨rfl, rfl⟩
end Go.Proofs.Ytofkgceenppdbaa
