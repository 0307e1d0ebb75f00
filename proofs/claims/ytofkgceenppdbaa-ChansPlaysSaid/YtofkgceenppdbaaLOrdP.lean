/- The law ChansOrder: what is sent and received, and the guard. -/
import Derived.Test.YtofkgceenppdbaaLEnds
import Derived.Test.YtofkgceenppdbaaOpenR
namespace Go.Proofs.Ytofkgceenppdbaa
open Go.RowKit
set_option linter.unusedVariables false
set_option linter.unusedSimpArgs false
theorem oeR : OneElem Try.prog 50 41 (.slice none 0 0) 24 := ⟨Try.underlying50, by kernel_rfl, by kernel_rfl, by decide⟩
theorem own_kept2 {w w' : World} {B r g e k n : Nat} {v : Value} {zs : List Value} (h : w.ownsRow B e k v n zs) (hk : Kept2 r g w w') (h1 : r < B) (h2 : g < B) : w'.ownsRow B e k v n zs := by
  obtain ⟨h0, h⟩ := h
  refine ⟨h0, ?_⟩
  rcases h with h | ⟨b, cap, cur, e1, hb1, hg1, rest⟩
  · exact .inl h
  · exact .inr ⟨b, cap, cur, e1, hb1, hk.blk hg1 (by omega) (by omega), rest⟩
/-- only channel i has messages -/
def LQ (i : Nat) (L : List (List Int)) : Nat → List (List Int) := updL (fun _ => []) i L
theorem updL_upd (LL : Nat → List (List Int)) (i : Nat) (L L' : List (List Int)) : updL (updL LL i L) i L' = updL LL i L' := by
  funext j
  unfold updL
  by_cases h : j = i <;> simp [h]
theorem LQ_nil (i : Nat) : LQ i [] = fun _ => [] := by
  funext j
  unfold LQ updL
  split <;> rfl
/-- what sending does to a channel's messages -/
def sE (C : Cfg) (i : Nat) (L : List (List Int)) (n : Nat) : Int := if n < 1 ∨ dN C i < n then 2 else if L.length = cN C i then 12 else 0
def sL (C : Cfg) (i : Nat) (L : List (List Int)) (xs : List Int) : List (List Int) := if sE C i L xs.length = 0 then L ++ [xs] else L
theorem sE_eq {C : Cfg} {i : Nat} (hi : i < C.nC) (L : List (List Int)) (n : Nat) : sendE C (LQ i L) (C.cf i) i n = sE C i L n := by
  rw [sendE_in hi, if_pos rfl]
  unfold LQ
  rw [updL_at]
  rfl
theorem sL_eq {C : Cfg} {i : Nat} (hi : i < C.nC) (L : List (List Int)) (xs : List Int) : sendL C (LQ i L) (C.cf i) i xs = LQ i (sL C i L xs) := by
  rw [sendL_in hi, sE_eq hi]
  unfold LQ sL
  by_cases h : sE C i L xs.length = 0
  · rw [if_pos h, if_pos h, updL_at, updL_upd]
  · rw [if_neg h, if_neg h]
theorem rE_eq {C : Cfg} {i : Nat} (hi : i < C.nC) (L : List (List Int)) : recvE C (LQ i L) (C.ct i) i = if L = [] then 12 else 0 := by
  rw [recvE_in hi, if_pos rfl]
  unfold LQ
  rw [updL_at]
theorem rL_eq {C : Cfg} {i : Nat} (hi : i < C.nC) (L : List (List Int)) : recvL C (LQ i L) (C.ct i) i = LQ i L.tail := by
  rw [recvL_in hi, if_pos rfl]
  unfold LQ
  rw [updL_at, updL_upd]
theorem rX_eq {C : Cfg} {i : Nat} (hi : i < C.nC) (L : List (List Int)) : recvX C (LQ i L) (C.ct i) i = L.headD [] := by
  unfold recvX
  rw [mayE_recv hi, if_pos rfl, if_pos rfl, Int.toNat_natCast]
  unfold LQ
  rw [updL_at]
theorem rm_eq {C : Cfg} {i : Nat} (hi : i < C.nC) (L : List (List Int)) : roomE C (LQ i L) i = C.cc i - L.length := by
  rw [roomE_in hi]
  unfold LQ
  rw [updL_at]
section
variable {Lw : Nat} {W : World} {C : Cfg} {K : CX} {i : Nat} {L : List (List Int)} {M0 : Nat → Int}
theorem o_send (hi : i < C.nC) (q : Option Addr) (xs : List Int) (cap : Nat) (h : Sys Lw W C K (LQ i L) M0) (hs : Sl W .u32 q xs.length (fun i => xs.getD i 0)) (hw : ∀ i, i < xs.length → 0 ≤ xs.getD i 0 ∧ xs.getD i 0 < 4294967296)
    (hq : ∀ b o, q = some ⟨b, o, none⟩ → 0 < xs.length → b < Lw) :
    Calls Try.prog 14 #[.pointer (some ⟨K.X, 0, none⟩), .int .i64 (C.cf i), .int .i64 i, .slice q xs.length cap] W fun e W' => e = .returned (.int .i64 (sE C i L xs.length)) ∧ Sys Lw W' C K (LQ i (sL C i L xs)) M0 ∧ Below Lw W W' ∧ Kept2 (K.R i) K.fb W W' := by
  have := sys_send (C.cf i) i q xs cap h hs hw (fun b o e h0 => h.under (hq b o e h0))
  rw [sE_eq hi, sL_eq hi, Int.toNat_natCast] at this
  exact this
theorem o_next (hi : i < C.nC) (h : Sys Lw W C K (LQ i L) M0) :
    Calls Try.prog 21 #[.pointer (some ⟨K.X, 0, none⟩), .int .i64 (C.ct i), .int .i64 i] W fun e W' => e = .returned (.tuple #[.int .i64 (L.headD []).length, .int .i64 (if L = [] then 12 else 0)]) ∧ Below W.heap.size W W' := by
  have := sys_next (C.ct i) i h
  rw [rX_eq hi, rE_eq hi] at this
  exact this
theorem o_recv (hi : i < C.nC) (h : Sys Lw W C K (LQ i L) M0) :
    Calls Try.prog 15 #[.pointer (some ⟨K.X, 0, none⟩), .int .i64 (C.ct i), .int .i64 i] W fun e W' => ∃ v, e = .returned (.tuple #[v, .int .i64 (if L = [] then 12 else 0)]) ∧ W'.ownsInts W.heap.size 40 .u32 v (L.headD []) ∧ Sys Lw W' C K (LQ i L.tail) M0 ∧ Below Lw W W' ∧ Kept2 (K.R i) K.fb W W' := by
  have := sys_recv (C.ct i) i h
  rw [rX_eq hi, rE_eq hi, rL_eq hi, Int.toNat_natCast] at this
  exact this
theorem o_room (hi : i < C.nC) (h : Sys Lw W C K (LQ i L) M0) :
    Calls Try.prog 20 #[.pointer (some ⟨K.X, 0, none⟩), .int .i64 i] W fun e W' => e = .returned (.int .i64 (C.cc i - L.length)) ∧ Below W.heap.size W W' := by
  have := sys_room (i : Int) h
  rw [rm_eq hi] at this
  exact this
end
set_option maxRecDepth 100000 in
theorem ord_out (C : Cfg) (l : Lay) (ch : Int) (p : Option Addr) (n cap : Nat) (w : World) (hI : IsC w C l) (h : longB C = true ∨ ¬ CkOk C ∨ ch < 0 ∨ C.nC ≤ ch ∨ 20 < n) :
    Calls Try.prog 4 #[.agg (cfgV C l), .int .i64 ch, .slice p n cap] w fun e w' => e = .returned (.bool true) ∧ Below w.heap.size w w' := by
  obtain ⟨pP, cP, pW, cW, pC, cC⟩ := l
  have HLC := Lib.hid fun (W : World) => longv C pP pW pC cP cW cC W
  have HI := Lib.hid hI
  unfold cfgV
  simp only
  cases hl : longB C
  · have hN := short_big hl
    rw [hl] at HLC
    have hck := fun (W : World) (h : IsC W C ⟨pP, cP, pW, cW, pC, cC⟩) => checkv C pP pW pC cP cW cC W h hN
    have h' : (ckE C ≠ 0) ∨ (ckE C = 0 ∧ ch < 0) ∨ (ckE C = 0 ∧ ¬ ch < 0 ∧ (C.nC : Int) ≤ ch) ∨ (ckE C = 0 ∧ ¬ ch < 0 ∧ ¬ (C.nC : Int) ≤ ch ∧ (20 : Int) < n) := by
      rcases ckE_cases C with ⟨h1, h2⟩ | ⟨h1, h2⟩
      · rcases h with h | h | h | h | h
        · rw [hl] at h; cases h
        · exact absurd h1 h
        · omega
        · omega
        · omega
      · omega
    rcases h' with k1 | ⟨k1, k2⟩ | ⟨k1, k2, k3⟩ | ⟨k1, k2, k3, k4⟩
    · obtain ⟨E, hE⟩ : ∃ E, ckE C = E := ⟨_, rfl⟩
      rw [hE] at hck k1
      have e1 : (E == 0) = false := beq_eq_false_iff_ne.2 k1
      have e2 : (E != 0) = true := by simpa using k1
      clear hE
      have HK := Lib.hid hck
      clear hck h hN k1 hI hl
      go_enter Try.func4, Try.ntmps4
      go_wp2_with fail
      refine (HLC.out _).mono ?_; rintro e w1 ⟨rfl, b1⟩
      have HB1 := Lib.hid (bstep (a := w) (by go_grown) b1)
      have HV := Lib.hid (show CV w1 w.heap.size C pP cP pW cW pC cC from ⟨bk_below (bk_new w _) b1, HI.out.below HB1.out⟩)
      clear b1
      obtain ⟨y0, y1, y2, y3⟩ := HV.out.cells
      go_wp2_with fail
      refine (HK.out _ HV.out.i).mono ?_; rintro e w2 ⟨rfl, b2⟩
      have HB2 := Lib.hid (bstep HB1.out b2)
      clear b2 y0 y1 y2 y3
      go_wp2_with fail
      refine (awake_any _).mono ?_; rintro e w3 ⟨rfl, b3⟩
      go_wp2
      go_ret
      exact ⟨rfl, bstep HB2.out b3⟩
    all_goals
      first | (have d4 : decide (ch < 0) = true := decide_eq_true k2) | (have d4 : decide (ch < 0) = false := decide_eq_false k2)
      try first | (have d5 : decide ((C.nC : Int) ≤ ch) = true := decide_eq_true k3) | (have d5 : decide ((C.nC : Int) ≤ ch) = false := decide_eq_false k3)
      rw [k1] at hck
      have HK := Lib.hid hck
      clear hck h hN k1 hI hl
      go_enter Try.func4, Try.ntmps4
      go_wp2_with fail
      refine (HLC.out _).mono ?_; rintro e w1 ⟨rfl, b1⟩
      have HB1 := Lib.hid (bstep (a := w) (by go_grown) b1)
      have HV := Lib.hid (show CV w1 w.heap.size C pP cP pW cW pC cC from ⟨bk_below (bk_new w _) b1, HI.out.below HB1.out⟩)
      clear b1
      obtain ⟨y0, y1, y2, y3⟩ := HV.out.cells
      go_wp2_with fail
      refine (HK.out _ HV.out.i).mono ?_; rintro e w2 ⟨rfl, b2⟩
      have HB2 := Lib.hid (bstep HB1.out b2)
      have HV2 := Lib.hid (HV.out.below b2)
      clear b2 y0 y1 y2 y3 HV
      obtain ⟨y0, y1, y2, y3⟩ := HV2.out.cells
      go_wp2_with fail
      refine (awake_any _).mono ?_; rintro e w3 ⟨rfl, b3⟩
      go_wp2
      go_ret
      exact ⟨rfl, bstep HB2.out b3⟩
  · rw [hl] at HLC
    clear h hI hl
    go_enter Try.func4, Try.ntmps4
    go_wp2_with fail
    refine (HLC.out _).mono ?_; rintro e w1 ⟨rfl, b1⟩
    have HB1 := Lib.hid (bstep (a := w) (by go_grown) b1)
    clear b1
    go_wp2_with fail
    refine (awake_any _).mono ?_; rintro e w2 ⟨rfl, b2⟩
    go_wp2
    go_ret
    exact ⟨rfl, bstep HB1.out b2⟩
end Go.Proofs.Ytofkgceenppdbaa
