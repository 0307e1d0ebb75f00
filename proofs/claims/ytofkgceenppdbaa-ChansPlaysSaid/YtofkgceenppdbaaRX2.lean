/- The reference's channels as they lie; Next, Room. -/
import Derived.Test.YtofkgceenppdbaaRX1
import Derived.Test.YtofkgceenppdbaaLEnds
import Derived.Deep.QuietTactic
namespace Go.Proofs.Ytofkgceenppdbaa
open Go.RowKit
set_option linter.unusedVariables false
set_option linter.unusedSimpArgs false
/-- messages as they lie, in blocks of which P holds -/
structure Msgs (w : World) (P : Nat → Prop) (q : Option Addr) (cp : Nat) (V : List Value) (L : List (List Int)) : Prop where
  len : V.length = L.length
  row : V = [] ∨ ∃ b o, q = some ⟨b, o, none⟩ ∧ P b ∧ ∀ (i : Nat) (u : Value), V[i]? = some u → w.cell? ⟨b, o + i, none⟩ = some u
  qn : q = none → V = [] ∧ cp = 0
  le : V.length ≤ cp
  at_ : ∀ (k : Nat) (xs : List Int), L[k]? = some xs → ∃ (a : Option Addr) (c : Nat), V[k]? = some (Value.slice a xs.length c) ∧ (xs.length = 0 ∨ ∃ b o, a = some ⟨b, o, none⟩ ∧ P b ∧ ∀ t, t < xs.length → w.cell? ⟨b, o + t, none⟩ = some (.int .u32 (xs.getD t 0)))
/-- the reference's rings -/
structure RefY (w : World) (P : Nat → Prop) (C : Cfg) (p : Option Addr) (b cap : Nat) (q : Nat → Option Addr) (cp out : Nat → Nat) (V : Nat → List Value) (t : Nat) (LL : Nat → List (List Int)) : Prop where
  hp : 0 < C.nC → p = some ⟨b, 0, none⟩ ∧ P b
  capl : C.nC ≤ cap
  pn : p = none → C.nC = 0 ∧ cap = 0
  row : ∀ i, i < C.nC → ∀ r, r < 4 → w.cell? ⟨b, i * 4 + r, none⟩ = some (rf C q (fun i => (LL i).length) cp out i r)
  out : ∀ i, i < C.nC → out i ≤ t
  msg : ∀ i, i < C.nC → Msgs w P (q i) (cp i) (V i) (LL i)
  le : ∀ i, i < C.nC → (LL i).length ≤ cN C i
section
variable {w w' : World} {P P' : Nat → Prop} {q : Option Addr} {cp : Nat} {V : List Value} {L : List (List Int)}
/-- what keeps the cells keeps the messages -/
theorem Msgs.keep (h : Msgs w P q cp V L) (hk : ∀ b o v, P b → w.cell? ⟨b, o, none⟩ = some v → P' b ∧ w'.cell? ⟨b, o, none⟩ = some v) : Msgs w' P' q cp V L := by
  refine ⟨h.len, ?_, h.qn, h.le, fun k xs hx => ?_⟩
  · rcases h.row with h0 | ⟨b, o, e, hP, hc⟩
    · exact .inl h0
    · by_cases hV : V = []
      · exact .inl hV
      · have hl : 0 < V.length := by cases V <;> simp_all
        exact .inr ⟨b, o, e, (hk b _ _ hP (hc 0 V[0] (List.getElem?_eq_getElem hl))).1, fun i u hi => (hk _ _ _ hP (hc i u hi)).2⟩
  · obtain ⟨a, c, h1, h2⟩ := h.at_ k xs hx
    refine ⟨a, c, h1, ?_⟩
    rcases h2 with h0 | ⟨b, o, e, hP, hc⟩
    · exact .inl h0
    · by_cases hn : xs.length = 0
      · exact .inl hn
      · exact .inr ⟨b, o, e, (hk b _ _ hP (hc 0 (by omega))).1, fun i hi => (hk _ _ _ hP (hc i hi)).2⟩
theorem Msgs.slv (h : Msgs w P q cp V L) : SlV w q V := by
  rcases h.row with h0 | ⟨b, o, e, _, hc⟩
  · exact .inl h0
  · exact .inr ⟨b, o, e, hc⟩
theorem Msgs.one (h : Msgs w P q cp V L) : ∀ u ∈ V, u.oneCell' = true := by
  intro u hu
  obtain ⟨k, hk, rfl⟩ := List.mem_iff_getElem.1 hu
  have hl := h.len
  obtain ⟨a, c, h1, _⟩ := h.at_ k L[k] (List.getElem?_eq_getElem (by omega))
  rw [List.getElem?_eq_getElem hk] at h1
  rw [Option.some.inj h1]
  rfl
end
section
variable {w w' : World} {P : Nat → Prop} {g : Nat} {C : Cfg} {p : Option Addr} {b cap : Nat} {q : Nat → Option Addr} {cp out : Nat → Nat} {V : Nat → List Value} {t : Nat} {LL : Nat → List (List Int)}
theorem RefY.keep (h : RefY w P C p b cap q cp out V t LL) (hk : ∀ b o v, P b → w.cell? ⟨b, o, none⟩ = some v → w'.cell? ⟨b, o, none⟩ = some v) : RefY w' P C p b cap q cp out V t LL :=
  ⟨h.hp, h.capl, h.pn, fun i hi r hr => hk _ _ _ (h.hp (by omega)).2 (h.row i hi r hr), h.out, fun i hi => (h.msg i hi).keep (fun b o v hb hc => ⟨hb, hk b o v hb hc⟩), h.le⟩
theorem RefY.below (h : RefY w P C p b cap q cp out V t LL) (hb : Below w.heap.size w w') : RefY w' P C p b cap q cp out V t LL := h.keep fun b o v _ hc => keepc hb hc
theorem RefY.kept (h : RefY w P C p b cap q cp out V t LL) (hg : ¬ P g) (hk : Kept g w w') : RefY w' P C p b cap q cp out V t LL := h.keep fun b o v hb hc => hk.cell hc (fun e => hg (e ▸ hb))
theorem RefY.cells (h : RefY w P C p b cap q cp out V t LL) {i : Nat} (hi : i < C.nC) : p = some ⟨b, 0, none⟩ ∧ w.cell? ⟨b, i * 4, none⟩ = some (.int .i64 (C.cc i)) ∧ w.cell? ⟨b, i * 4 + 1, none⟩ = some (.int .i64 (C.cw i)) ∧ w.cell? ⟨b, i * 4 + 2, none⟩ = some (.slice (q i) (LL i).length (cp i)) ∧ w.cell? ⟨b, i * 4 + 3, none⟩ = some (.int .i64 (out i)) :=
  ⟨(h.hp (by omega)).1, h.row i hi 0 (by decide), h.row i hi 1 (by decide), h.row i hi 2 (by decide), h.row i hi 3 (by decide)⟩
theorem rnext_any (pC : Option Addr) (cC : Nat) (part ch : Int) (hy : RefY w P C p b cap q cp out V t LL) (hC : Sl4 w pC C.nC C.cf C.ct C.cc C.cw) (h16 : C.nC ≤ 16) :
    Calls Try.prog 51 #[.agg #[.slice pC C.nC cC, .slice p C.nC cap], .int .i64 part, .int .i64 ch] w fun e w' => e = .returned (.tuple #[.int .i64 (recvX C LL part ch).length, .int .i64 (recvE C LL part ch)]) ∧ Below w.heap.size w w' := by
  have hm := fun (W : World) (h : Sl4 W pC C.nC C.cf C.ct C.cc C.cw) => rmay_any C pC p cC C.nC cap part ch false W h h16
  have HC := Lib.hid hC
  have hbox : Below w.heap.size w (w.alloc (.cells #[.slice pC C.nC cC, .slice p C.nC cap] 61)) := (Below.refl _ _).alloc (Nat.le_refl _) _
  by_cases h0 : mayE C part ch false = 0
  case neg =>
    have e1 : recvE C LL part ch = mayE C part ch false := if_neg h0
    have e3 : recvX C LL part ch = [] := if_neg h0
    rw [e1, e3]
    obtain ⟨E, hE⟩ : ∃ E, mayE C part ch false = E := ⟨_, rfl⟩
    rw [hE] at hm h0
    rw [hE]
    have x1 : (E == 0) = false := beq_eq_false_iff_ne.2 h0
    have x2 : (E != 0) = true := by rw [bne, x1]; rfl
    have HM := Lib.hid hm
    have HX := Lib.hid hbox
    clear hm hbox hE h0 hC hy
    go_enter Try.func51, Try.ntmps51
    go_wp2_with fail
    refine (HM.out _ (HC.out.below HX.out)).mono ?_; rintro e w1 ⟨rfl, hb⟩
    go_wp2
    go_ret2
    exact ⟨by simp, bstep HX.out hb⟩
  case pos =>
    rcases mayE_cases C part ch false with h4 | h4 | ⟨_, hc1, hc2, hp⟩
    · omega
    · omega
    obtain ⟨i, rfl⟩ : ∃ i : Nat, ch = i := ⟨ch.toNat, by omega⟩
    have hi : i < C.nC := by omega
    have e1 : recvE C LL part i = if LL i = [] then 12 else 0 := by unfold recvE; rw [if_pos h0, Int.toNat_natCast]
    have e3 : recvX C LL part i = (LL i).headD [] := by unfold recvX; rw [if_pos h0, Int.toNat_natCast]
    rw [e1, e3]
    rw [h0] at hm
    have HM := Lib.hid hm
    have HX := Lib.hid hbox
    obtain ⟨rfl, _, _, r2, _⟩ := hy.cells hi
    have hmsg := hy.msg i hi
    have d1 : (i : Int) < C.nC := by omega
    clear hm hbox e1 e3 h0 hp
    rcases hL : LL i with _ | ⟨xs, L⟩
    · rw [hL] at r2
      have HR2 := Lib.hid r2
      clear r2 hy hmsg hC hL
      rw [if_pos rfl]
      go_enter Try.func51, Try.ntmps51
      go_wp2_with fail
      refine (HM.out _ (HC.out.below HX.out)).mono ?_; rintro e w1 ⟨rfl, hb⟩
      have hB := bstep HX.out hb
      have hbx := bk_below (bk_new w (.cells #[.slice pC C.nC cC, .slice (some ⟨b, 0, none⟩) C.nC cap] 61)) hb
      have b0 : w1.cell? ⟨w.heap.size, 0, none⟩ = some (.slice pC C.nC cC) := (bk_cell hbx 0).trans rfl
      have b1 : w1.cell? ⟨w.heap.size, 1, none⟩ = some (.slice (some ⟨b, 0, none⟩) C.nC cap) := (bk_cell hbx 1).trans rfl
      have r2' := keepc hB HR2.out
      have HB := Lib.hid hB
      clear hbx hb hB
      go_wp2
      go_ret2
      exact ⟨by simp, HB.out⟩
    · rw [hL] at r2 hmsg
      obtain ⟨a, c, v1, v2⟩ := hmsg.at_ 0 xs rfl
      rcases hmsg.row with h9 | ⟨qb, qo, hq, v3, hqc⟩
      · rw [h9] at v1; simp at v1
      have v4 := hqc 0 _ v1
      rw [hq] at r2
      rw [Nat.add_zero] at v4
      have HR2 := Lib.hid r2
      have HV4 := Lib.hid v4
      clear r2 v4 hy hmsg hC hL v1 v2 v3 hq hqc
      rw [if_neg (by simp)]
      have x1 : (((xs :: L).length : Int) == 0) = false := beq_eq_false_iff_ne.2 (by simp; omega)
      have x3 : (0 : Int) < ((xs :: L).length : Int) := by simp
      simp only [List.headD_cons]
      go_enter Try.func51, Try.ntmps51
      go_wp2_with fail
      refine (HM.out _ (HC.out.below HX.out)).mono ?_; rintro e w1 ⟨rfl, hb⟩
      have hB := bstep HX.out hb
      have hbx := bk_below (bk_new w (.cells #[.slice pC C.nC cC, .slice (some ⟨b, 0, none⟩) C.nC cap] 61)) hb
      have b0 : w1.cell? ⟨w.heap.size, 0, none⟩ = some (.slice pC C.nC cC) := (bk_cell hbx 0).trans rfl
      have b1 : w1.cell? ⟨w.heap.size, 1, none⟩ = some (.slice (some ⟨b, 0, none⟩) C.nC cap) := (bk_cell hbx 1).trans rfl
      have r2' := keepc hB HR2.out
      have r4' := keepc hB HV4.out
      have HB := Lib.hid hB
      clear hbx hb hB
      go_wp2
      go_ret2
      exact ⟨by simp, HB.out⟩
theorem rroom_any (pC : Option Addr) (cC : Nat) (ch : Int) (hy : RefY w P C p b cap q cp out V t LL) (hC : Sl4 w pC C.nC C.cf C.ct C.cc C.cw) (hok : CkOk C) :
    Calls Try.prog 27 #[.agg #[.slice pC C.nC cC, .slice p C.nC cap], .int .i64 ch] w fun e w' => e = .returned (.int .i64 (roomE C LL ch)) ∧ Below w.heap.size w w' := by
  have h16 := hok.1.N.2.2.2.2
  unfold roomE
  by_cases h1 : ch < 0
  · rw [if_pos (.inl h1)]
    have d1 : decide (ch < 0) = true := decide_eq_true h1
    clear hy hC
    go_enter Try.func27, Try.ntmps27
    go_wp2
    go_ret
    exact ⟨rfl, by go_grown⟩
  by_cases h2 : C.nC ≤ ch
  · rw [if_pos (.inr h2)]
    have d1 : decide (ch < 0) = false := decide_eq_false h1
    have d2 : decide ((C.nC : Int) ≤ ch) = true := decide_eq_true h2
    clear hy hC
    go_enter Try.func27, Try.ntmps27
    go_wp2
    go_ret
    exact ⟨rfl, by go_grown⟩
  rw [if_neg (by omega)]
  obtain ⟨i, rfl⟩ : ∃ i : Nat, ch = i := ⟨ch.toNat, by omega⟩
  have hi : i < C.nC := by omega
  rw [Int.toNat_natCast]
  obtain ⟨rfl, _, _, r2, _⟩ := hy.cells hi
  have hle := hy.le i hi
  obtain ⟨l1, l2, l3, l4, l5, l6⟩ := cN_eq hok hi
  rcases hC with h0 | ⟨cb, o, rfl, hc⟩
  · omega
  obtain ⟨_, _, c2, _⟩ := hc i hi
  have hbl := block_lt_of_cell c2
  have hbr := block_lt_of_cell r2
  have d1 : ¬ (i : Int) < 0 := by omega
  have d2 : ¬ (C.nC : Int) ≤ i := by omega
  have d3 : (i : Int) < C.nC := by omega
  have x1 : IntKind.i64.wrap (C.cc i - (LL i).length) = C.cc i - (LL i).length := IntWalk.i64_in _ (by omega)
  clear hc hy l1 l2 l3 l4 l5 l6 hle h1 h2
  generalize (LL i).length = m at *
  go_enter Try.func27, Try.ntmps27
  go_wp2_with fail
  go_quiet (fail)
  go_wp2
  go_ret
  exact ⟨rfl, bdrewN (by go_grown) _⟩
end
end Go.Proofs.Ytofkgceenppdbaa
