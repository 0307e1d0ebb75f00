/- The reference's ring: its Send and Recv, over messages as they lie. -/
import Derived.Test.YtofkgceenppdbaaOwnV
import Derived.Test.YtofkgceenppdbaaRing5
import Derived.Test.YtofkgceenppdbaaLList
import Derived.StillTailTactics
import Derived.Deep.QuietTactic
import Derived.Deep.DeepCutAuto
import Derived.Deep.CutBlock
namespace Go.Proofs.Ytofkgceenppdbaa
open Go.RowKit
set_option linter.unusedVariables false
set_option linter.unusedSimpArgs false
theorem oeR : OneElem Try.prog 50 41 (.slice none 0 0) 24 := ⟨Try.underlying50, by kernel_rfl, by kernel_rfl, by decide⟩
/-- the reference's ring, as it lies -/
def IsRef (w : World) (g c d out : Nat) (p : Option Addr) (n cp : Nat) : Prop := w.heap[g]? = some (.cells #[.int .i64 c, .int .i64 d, .slice p n cp, .int .i64 out] 99 (0, 0))
theorem IsRef.cells {w : World} {g c d out : Nat} {p : Option Addr} {n cp : Nat} (h : IsRef w g c d out p n cp) : w.cell? ⟨g, 0, none⟩ = some (.int .i64 c) ∧ w.cell? ⟨g, 1, none⟩ = some (.int .i64 d) ∧ w.cell? ⟨g, 2, none⟩ = some (.slice p n cp) ∧ w.cell? ⟨g, 3, none⟩ = some (.int .i64 out) ∧
    w.frozen? ⟨g, 2, none⟩ = false ∧ w.frozen? ⟨g, 3, none⟩ = false :=
  ⟨bk_cell h 0, bk_cell h 1, bk_cell h 2, bk_cell h 3, bk_frozen h 2, bk_frozen h 3⟩
set_option maxHeartbeats 1000000 in
theorem rsend_arg (g c d out : Nat) (p : Option Addr) (n cp : Nat) (q : Option Addr) (L cap : Nat) (w : World) (h : IsRef w g c d out p n cp) (hL : L < 1 ∨ d < L) :
    Calls Try.prog 64 #[.pointer (some ⟨g, 0, none⟩), .slice q L cap] w fun e w' => e = .returned (.int .i64 2) ∧ w' = w := by
  obtain ⟨h0, h1, h2, h3, f2, f3⟩ := h.cells
  rcases hL with hL | hL
  · have k1 : (L : Int) < 1 := by omega
    go_enter Try.func64, Try.ntmps64
    go_wp2
    go_ret
    exact ⟨rfl, rfl⟩
  · by_cases k0 : (L : Int) < 1
    · go_enter Try.func64, Try.ntmps64
      go_wp2
      go_ret
      exact ⟨rfl, rfl⟩
    · have k1 : (d : Int) < L := by omega
      go_enter Try.func64, Try.ntmps64
      go_wp2
      go_ret
      exact ⟨rfl, rfl⟩
set_option maxHeartbeats 1000000 in
theorem rsend_full (g c d out : Nat) (p : Option Addr) (n cp : Nat) (q : Option Addr) (L cap : Nat) (w : World) (h : IsRef w g c d out p n cp) (h1 : 1 ≤ L) (hL : L ≤ d) (hn : c ≤ n) :
    Calls Try.prog 64 #[.pointer (some ⟨g, 0, none⟩), .slice q L cap] w fun e w' => e = .returned (.int .i64 12) ∧ Below w.heap.size w w' := by
  obtain ⟨h0, h1', h2, h3, f2, f3⟩ := h.cells
  have k0 : ¬ (L : Int) < 1 := by omega
  have k1 : ¬ (d : Int) < L := by omega
  have k2 : (c : Int) ≤ n := by omega
  go_enter Try.func64, Try.ntmps64
  go_wp2_with fail
  go_quiet (fail)
  go_wp2
  go_ret
  exact ⟨rfl, bdrewN (Below.refl _ _) _⟩
theorem own_none {w : World} {base e : Nat} {q : IntKind} (hbase : base ≤ w.heap.size) : (w.alloc (.cells #[] e)).ownsInts base e q (.slice (some ⟨w.heap.size, 0, none⟩) 0 0) [] :=
  ⟨ownV_none hbase, fun z hz => by simp at hz⟩
theorem alloc_bl (w : World) (o : Obj) : Below w.heap.size w (w.alloc o) := (Below.refl _ _).alloc (Nat.le_refl _) _
set_option maxHeartbeats 4000000 in
theorem rsend_ok (g c d out : Nat) (p : Option Addr) (Vs : List Value) (cp : Nat) (q : Option Addr) (xs : List Int) (cap : Nat) (w : World) (h : IsRef w g c d out p Vs.length cp) (hV : SlV w p Vs) (hp : p = none → Vs = [] ∧ cp = 0) (hone : ∀ u ∈ Vs, u.oneCell' = true)
    (hs : Sl w .u32 q xs.length (fun i => xs.getD i 0)) (hwf : ∀ x ∈ xs, (Lit.int .u32 x).wf = true) (h1 : 1 ≤ xs.length) (hL : xs.length ≤ d) (hd : d ≤ 100) (hn : Vs.length < c) (hc : c ≤ 100) :
    Calls Try.prog 64 #[.pointer (some ⟨g, 0, none⟩), .slice q xs.length cap] w fun e w' => e = .returned (.int .i64 0) ∧ ∃ p' q' cp' c', IsRef w' g c d out p' (Vs.length + 1) cp' ∧
      SlV w' p' (Vs ++ [.slice q' xs.length c']) ∧ Sl w' .u32 q' xs.length (fun i => xs.getD i 0) ∧ (∀ b o, p' = some ⟨b, o, none⟩ → w.heap.size ≤ b) ∧ (∀ b o, q' = some ⟨b, o, none⟩ → w.heap.size ≤ b) ∧ Vs.length + 1 ≤ cp' ∧ Kept g w w' := by
  obtain ⟨h0, h1', h2, h3, f2, f3⟩ := h.cells
  have k0 : ¬ (xs.length : Int) < 1 := by omega
  have k1 : ¬ (d : Int) < xs.length := by omega
  have k2 : ¬ (c : Int) ≤ Vs.length := by omega
  have k3 : decide (c ≤ Vs.length) = false := by simp; omega
  have hqn : q = none → xs = [] ∧ cap = 0 := fun e => by
    rcases hs with h0 | ⟨b, o, e', _⟩
    · omega
    · rw [e] at e'; cases e'
  have hgl := bk_lt h
  have H := Lib.hid h
  have HV := Lib.hid hV
  have HS := Lib.hid hs
  have HP := Lib.hid hp
  have HQ := Lib.hid hqn
  have HO := Lib.hid hone
  have HW := Lib.hid hwf
  clear h hV hs hp hqn hone hwf
  go_enter Try.func64, Try.ntmps64
  go_wp2_with fail
  go_quiet (fail)
  go_upto_region 5 with fail
  refine wp_abs (fun W0 => IsRef W0 g c d out p Vs.length cp ∧ SlV W0 p Vs ∧ Sl W0 .u32 q xs.length (fun i => xs.getD i 0) ∧ w.heap.size ≤ W0.heap.size ∧ g < W0.heap.size ∧ Kept g w W0) ⟨H.out, HV.out, HS.out, Nat.le_refl _, hgl, (Kept.refl _ _).drewN _⟩ ?_
  clear H HV HS h0 h1' h2 h3 f2 f3
  rintro W0 ⟨h, hV, hs, hz0, hg0, hk0⟩
  obtain ⟨h0, h1', h2, h3, f2, f3⟩ := h.cells
  have H := Lib.hid h
  have HV := Lib.hid hV
  have HS := Lib.hid hs
  have HK0 := Lib.hid hk0
  clear h hV hs hk0
  go_wp2_with (at_builtin; refine appV rfl _ _ _ rfl oeR (.slice (some ⟨W0.heap.size, 0, none⟩) 0 0) [] Vs (by rfl) (ownV_none (Nat.le_refl _)) p cp (by rfl) HP.out (HV.out.below (alloc_bl _ _)) HO.out (by simp; omega) (by simp) ?c1)
  case c1 =>
    intro v1 w1 o1 b1 g1
    (try simp only [List.nil_append] at o1)
    have hb01 : Below W0.heap.size W0 w1 := (alloc_bl _ _).trans b1
    have HO1 := Lib.hid o1
    have HB01 := Lib.hid hb01
    have hz1 := hb01.size
    clear o1 b1 g1 hb01
    go_wp2_with (at_builtin; refine appN rfl _ _ _ rfl ieW (.slice (some ⟨w1.heap.size, 0, none⟩) 0 0) [] xs (by rfl) (own_none (Nat.le_refl _)) q cap (by rfl) HQ.out ((HS.out.below HB01.out).below (alloc_bl _ _)) HW.out (by simp; omega) (by simp) ?c2)
    case c2 =>
      intro v2 w2 o2 b2 g2
      (try simp only [List.nil_append] at o2)
      obtain ⟨a2, c2, rfl, hsl2, hlt2⟩ := own_sl o2
      have hb12 : Below w1.heap.size w1 w2 := (alloc_bl _ _).trans b2
      have hb02 : Below W0.heap.size W0 w2 := HB01.out.trans (hb12.mono hz1)
      have HO2 := Lib.hid (ownV_below HO1.out hb12)
      have HSL2 := Lib.hid hsl2
      have HLT2 := Lib.hid hlt2
      have HB02 := Lib.hid hb02
      have hz2 := hb02.size
      have hg2 : g < w2.heap.size := by omega
      have HR2 := Lib.hid (show IsRef w2 g c d out p Vs.length cp from bk_below H.out hb02)
      obtain ⟨x0, x1, x2, x3, y2, y3⟩ := HR2.out.cells
      clear o2 b2 g2 hsl2 hlt2 hb12 hb02
      go_wp2_with (at_builtin; refine appV rfl _ _ _ rfl oeR v1 Vs [.slice a2 xs.length c2] (by rfl) (ownV_below HO2.out (alloc_bl _ _)) (some ⟨w2.heap.size, 0, none⟩) 1 (by rfl) (fun e => by cases e) (.inr ⟨w2.heap.size, 0, rfl, fun i u hi => by
          match i, hi with
          | 0, hi =>
            simp at hi
            subst hi
            exact (bk_cell (bk_new w2 _) 0).trans rfl⟩) (fun u hu => by simp at hu; subst hu; rfl) (by simp; omega) (by simp; omega) ?c3)
      case c3 =>
        intro v3 w3 o3 b3 g3
        have hlen : (Vs ++ [Value.slice a2 xs.length c2]).length = Vs.length + 1 := by simp
        obtain ⟨a3, c3, e3, hsl3, hlt3, _, hcap3⟩ := ownV_sl (zs := Vs ++ [Value.slice a2 xs.length c2]) (by rw [hlen]; exact o3)
        rw [hlen] at e3 hcap3
        have HC3 := Lib.hid hcap3
        clear hcap3
        subst e3
        have hz3 := g3.size
        rw [World.size_alloc] at hz3
        have hv1 : ∀ b, v1.ownBlock = some b → b < w1.heap.size := fun b e => (HO1.out.lt b e).2
        have hs3 : Sl w3 .u32 a2 xs.length (fun i => xs.getD i 0) := by
          rcases HSL2.out with h0 | ⟨b, o, e, hc⟩
          · exact .inl h0
          · refine .inr ⟨b, o, e, fun i hi => ?_⟩
            have hb := HLT2.out b o e
            have hne : v1.ownBlock ≠ some b := fun e' => by have := hv1 b e'; omega
            refine ((World.cell?_of_block (w := w2.alloc (.cells #[Value.slice a2 xs.length c2] 41)) (w' := w3) (a := ⟨b, o + i, none⟩) (g3.block b (by rw [World.size_alloc]; omega) (fun e' => hne e'.symm))).trans ?_)
            exact keepc (alloc_bl w2 _) (hc i hi)
        have hR3 : IsRef w3 g c d out p Vs.length cp := (b3.block g hg0).trans (bk_alloc HR2.out _)
        obtain ⟨z0, z1, z2, z3, y2', y3'⟩ := hR3.cells
        have hB3 : Below W0.heap.size W0 w3 := (HB02.out.alloc hz2 _).trans b3
        have HR3 := Lib.hid hR3
        have HB3 := Lib.hid hB3
        have HS3 := Lib.hid hs3
        have HSL3 := Lib.hid hsl3
        have HLT3 := Lib.hid hlt3
        have hg3 : g < w3.heap.size := by omega
        clear o3 b3 g3 hs3 hR3 hB3 hsl3 hlt3 x0 x1 x2 x3 y2 y3 hlen hv1
        go_wp2
        go_ret
        refine ⟨rfl, a3, a2, c3, c2, ?_, ?_, ?_, ?_, ?_, HC3.out, ?_⟩
        · exact bk_set HR3.out 2 _
        · rcases HSL3.out with h0 | ⟨b, o, e, hc⟩
          · exact .inl h0
          · refine .inr ⟨b, o, e, fun i u hi => ?_⟩
            have := HLT3.out b o e
            rw [World.cell?_setCell_other _ _ _ _ (by first | omega | (simp; done) | (simp; omega))]
            exact hc i u hi
        · rcases HS3.out with h0 | ⟨b, o, e, hc⟩
          · exact .inl h0
          · refine .inr ⟨b, o, e, fun i hi => ?_⟩
            have := HLT2.out b o e
            rw [World.cell?_setCell_other _ _ _ _ (by first | omega | (simp; done) | (simp; omega))]
            exact hc i hi
        · intro b o e
          have := HLT3.out b o e
          omega
        · intro b o e
          have := HLT2.out b o e
          omega
        · exact ((HK0.out.trans (.of_below HB3.out)).setCell 2 _)
theorem rrecv_none (g c d out : Nat) (p : Option Addr) (cp : Nat) (w : World) (h : IsRef w g c d out p 0 cp) :
    Calls Try.prog 65 #[.pointer (some ⟨g, 0, none⟩)] w fun e w' => e = .returned (.tuple #[.slice none 0 0, .int .i64 12]) ∧ w' = w := by
  obtain ⟨h0, h1', h2, h3, f2, f3⟩ := h.cells
  go_enter Try.func65, Try.ntmps65
  go_wp2
  go_ret2
  exact ⟨rfl, rfl⟩
set_option maxHeartbeats 2000000 in
theorem rrecv_ok (g c d out n : Nat) (b o : Nat) (cp : Nat) (q : Option Addr) (L cq : Nat) (Vs : List Value) (w : World) (hn : n = Vs.length) (h : IsRef w g c d out (some ⟨b, o, none⟩) (n + 1) cp)
    (hV : ∀ i u, (Value.slice q L cq :: Vs)[i]? = some u → w.cell? ⟨b, o + i, none⟩ = some u) (hcp : n + 1 ≤ cp) (ho : out < 1000000) (hbg : b ≠ g) :
    Calls Try.prog 65 #[.pointer (some ⟨g, 0, none⟩)] w fun e w' => e = .returned (.tuple #[.slice q L cq, .int .i64 0]) ∧ ∃ o' cp', IsRef w' g c d (out + 1) (some ⟨b, o', none⟩) n cp' ∧
      SlV w' (some ⟨b, o', none⟩) Vs ∧ n ≤ cp' ∧ Kept g w w' := by
  obtain ⟨h0, h1', h2, h3, f2, f3⟩ := h.cells
  have hgl := bk_lt h
  have x0 : w.cell? ⟨b, o, none⟩ = some (.slice q L cq) := hV 0 _ rfl
  have s1 : IntKind.i64.wrap ((out : Int) + 1) = (out : Int) + 1 := IntWalk.i64_in _ (by omega)
  have k1 : (0 : Int) < (n : Int) + 1 := by omega
  have k2 : (1 : Int) ≤ (n : Int) + 1 := by omega
  have k3 : (n : Int) + 1 ≤ cp := by omega
  have k4 : ((n : Int) + 1 == 0) = false := beq_eq_false_iff_ne.2 (by omega)
  have H := Lib.hid h
  have HV := Lib.hid hV
  have HN := Lib.hid hn
  clear h hV hn
  go_enter Try.func65, Try.ntmps65
  have he : (out : Int) + 1 = ((out + 1 : Nat) : Int) := by push_cast; rfl
  have HE := Lib.hid he
  clear he
  by_cases hc1 : cp = 1
  · subst hc1
    have hn0 : n = 0 := by omega
    have HN0 := Lib.hid hn0
    clear hn0
    go_wp2
    go_ret2
    rw [HE.out]
    refine ⟨rfl, o, 0, ?_, .inl (List.length_eq_zero_iff.1 (HN.out.symm.trans HN0.out)), by rw [HN0.out]; exact Nat.le_refl _, ((Kept.refl _ _).setCell 2 _).setCell 3 _⟩
    have := bk_set (bk_set H.out 2 (.slice (some ⟨b, o, none⟩) n 0)) 3 (.int .i64 ((out + 1 : Nat) : Int))
    rw [HN0.out] at this ⊢
    exact this
  · go_wp2
    go_ret2
    rw [HE.out]
    refine ⟨rfl, o + 1, cp - 1, bk_set (bk_set H.out 2 _) 3 _, .inr ⟨b, o + 1, rfl, fun i u hi => ?_⟩, by omega, ((Kept.refl _ _).setCell 2 _).setCell 3 _⟩
    have := (((Kept.refl g w).setCell 2 (.slice (some ⟨b, o + 1, none⟩) n (cp - 1))).setCell 3 (.int .i64 ((out + 1 : Nat) : Int))).cell (HV.out (i + 1) u (by simpa using hi)) hbg
    rw [show o + 1 + i = o + (i + 1) by omega]
    exact this
end Go.Proofs.Ytofkgceenppdbaa
