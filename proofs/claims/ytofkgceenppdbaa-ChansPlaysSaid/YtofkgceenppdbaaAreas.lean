/- plan's areas: what the iterator tells, one behind the other. -/
import Derived.Test.YtofkgceenppdbaaConf4
import Derived.Test.YtofkgceenppdbaaRng
namespace Go.Proofs.Ytofkgceenppdbaa
open Go.RowKit
set_option linter.unusedVariables false
set_option linter.unusedSimpArgs false
attribute [local go_sem] Oper.semAt_some
/-- the k-th area: its kind, whose it is, how many frames, and where it begins -/
def aK (C : Cfg) (k : Nat) : Int := if k < 2 * C.nP then ((k % 2 : Nat) : Int) else 2
def aI (C : Cfg) (k : Nat) : Nat := if k < 2 * C.nP then k / 2 else k - 2 * C.nP
def aM (C : Cfg) (k : Nat) : Int := if k < 2 * C.nP then (if k % 2 = 0 then C.q (k / 2) else (C.s (k / 2) + 2) / 3) else fC C (k - 2 * C.nP)
def aO (C : Cfg) (k : Nat) : Int := sumF (aM C) k
def aV (C : Cfg) (k : Nat) : Array Value := #[.int .i64 (aO C k), .agg #[.int .i64 (aK C k), .int .i64 (aI C k), .int .i64 (aM C k)]]
theorem by_any (n m : Int) (w : World) (h0 : 0 ≤ n) (h1 : n ≤ 100000) (hm : 1 ≤ m) (hm2 : m ≤ 100) :
    Calls Try.prog 72 #[.int .i64 n, .int .i64 m] w fun e w' => e = .returned (.int .i64 ((n + m - 1) / m)) ∧ w' = w := by
  have hz : (m == 0) = false := beq_eq_false_iff_ne.2 (by omega)
  go_enter Try.func72, Try.ntmps72
  go_wp2
  go_ret
  exact ⟨rfl, rfl⟩
set_option maxHeartbeats 1000000 in
theorem tell_in (l N B Bf By k n : Nat) (C : Cfg) (J : Nat → World → Prop) (Jx : World → Prop) (hJ : ∀ k X Y, Below B X Y → J k X → J k Y)
    (hY : ∀ V, J k V → YieldAt Fence.wide 0 Try.prog l (aV C k) V fun e V' => (e = .returned (.bool true) ∧ J (k + 1) V' ∧ Kept l V V') ∨ (e = .returned (.bool false) ∧ Jx V'))
    (V : World) (hf : B ≤ Bf) (hy : B ≤ By) (hne : Bf ≠ By) (hl : l < B) (hv : J k V)
    (hF : V.heap[Bf]? = some (.cells #[.int .i64 (aO C k)] 3 (0, 0))) (hG : V.heap[By]? = some (.cells #[.func (.yield l) #[] #[]] 132 (0, 0)))
    (h0 : 0 ≤ aO C k) (h1 : 0 ≤ aM C k) (h2 : aO C k + aM C k ≤ 100000) :
    CallsIn Fence.wide n Try.prog 71 #[.agg #[.int .i64 (aK C k), .int .i64 (aI C k), .int .i64 (aM C k)], .pointer (some ⟨Bf, 0, none⟩), .pointer (some ⟨By, 0, none⟩)] V fun e V' =>
      (e = .returned (.bool true) ∧ J (k + 1) V' ∧ V'.heap[Bf]? = some (.cells #[.int .i64 (aO C (k + 1))] 3 (0, 0)) ∧ Kept2 l Bf V V') ∨ (e = .returned (.bool false) ∧ Jx V') := by
  have hs : aO C (k + 1) = aO C k + aM C k := rfl
  rw [hs]
  unfold aV at hY
  generalize aO C k = o at *
  generalize aK C k = kd at *
  generalize aI C k = ix at *
  generalize aM C k = mn at *
  have s1 : IntKind.i64.wrap (o + mn) = o + mn := IntWalk.i64_in _ (by omega)
  have c0 : V.cell? ⟨Bf, 0, none⟩ = some (.int .i64 o) := (bk_cell hF 0).trans rfl
  have c1 : V.cell? ⟨By, 0, none⟩ = some (.func (.yield l) #[] #[]) := (bk_cell hG 0).trans rfl
  have f0 := bk_frozen hF 0
  have l0 := bk_lt hF
  have l1 := bk_lt hG
  have hB1 : Below B V ((V.setCell ⟨Bf, 0, none⟩ (.int .i64 (o + mn))).alloc (.cells #[.int .i64 kd, .int .i64 ix, .int .i64 mn] 128)) := ((Below.refl B V).setCell (p := ⟨Bf, 0, none⟩) hf _).alloc (by simp; omega) _
  obtain ⟨fn, tmps, assign, body, hy, hR⟩ := hY _ (hJ k _ _ hB1 hv)
  have hF1 : ((V.setCell ⟨Bf, 0, none⟩ (.int .i64 (o + mn))).alloc (.cells #[.int .i64 kd, .int .i64 ix, .int .i64 mn] 128)).heap[Bf]? = some (.cells #[.int .i64 (o + mn)] 3 (0, 0)) := bk_alloc (bk_set hF 0 _) _
  have hK1 : Kept2 l Bf V ((V.setCell ⟨Bf, 0, none⟩ (.int .i64 (o + mn))).alloc (.cells #[.int .i64 kd, .int .i64 ix, .int .i64 mn] 128)) := (((Kept.refl Bf V).setCell 0 _).trans (.of_below ((Below.refl _ _).alloc (Nat.le_refl _) _))).two2
  have HF1 := Lib.hid hF1
  have HK1 := Lib.hid hK1
  clear hs hF1 hK1 hB1 hF hG hY hv
  refine callsIn_of_wp Try.func71 rfl trivial ?_ rfl
  simp only [Try.ntmps71, List.size_toArray, List.length_cons, List.length_nil, Nat.reduceAdd, Nat.reduceSub, Array.replicate_succ, Array.replicate_zero, List.push_toArray, List.append_toArray, List.nil_append, List.cons_append]
  gi_wp2_with fail
  refine ⟨(fun h => by cases h), (round_any (F := Fence.wide) rfl hR).mono ?_⟩
  rintro e W' (⟨rfl, hj, hk⟩ | ⟨rfl, hx⟩)
  · gi_wp2
    go_ret
    exact .inl ⟨rfl, hj, hk.blk HF1.out (by omega), HK1.out.trans hk.two1⟩
  · gi_wp2
    go_ret
    exact .inr ⟨rfl, hx⟩
theorem bk_new' (w : World) (o : Obj) (g : Nat) (h : g = w.heap.size) : (w.alloc o).heap[g]? = some o := by subst h; exact bk_new w o
theorem callsIn_abs {F : Fence} {n : Nat} {P : Program} {f : FuncId} {args : Array Value} {w : World} {R : Ending → World → Prop} (G : World → Prop) (hF : G w) (h : ∀ W, G W → CallsIn F n P f args W R) : CallsIn F n P f args w R := h w hF
theorem wpIn_abs {F : Fence} {n : Nat} {P : Program} {c : Code} {Q : Exit → Act → World → Prop} {a : Act} {w : World} (G : World → Prop) (hF : G w) (h : ∀ W, G W → c.wpIn F n P Q a W) : c.wpIn F n P Q a w := h w hF
theorem aK0 {C : Cfg} {i : Nat} (h : i < C.nP) : aK C (2 * i) = 0 := by
  unfold aK
  rw [if_pos (by omega)]
  omega
theorem aK1 {C : Cfg} {i : Nat} (h : i < C.nP) : aK C (2 * i + 1) = 1 := by
  unfold aK
  rw [if_pos (by omega)]
  omega
theorem aK2 {C : Cfg} {i : Nat} : aK C (2 * C.nP + i) = 2 := by
  unfold aK
  rw [if_neg (by omega)]
theorem aI0 {C : Cfg} {i : Nat} (h : i < C.nP) : aI C (2 * i) = i := by
  unfold aI
  rw [if_pos (by omega)]
  omega
theorem aI1 {C : Cfg} {i : Nat} (h : i < C.nP) : aI C (2 * i + 1) = i := by
  unfold aI
  rw [if_pos (by omega)]
  omega
theorem aI2 {C : Cfg} {i : Nat} : aI C (2 * C.nP + i) = i := by
  unfold aI
  rw [if_neg (by omega)]
  omega
theorem aM0 {C : Cfg} {i : Nat} (h : i < C.nP) : aM C (2 * i) = C.q i := by
  unfold aM
  rw [if_pos (by omega), if_pos (by omega)]
  congr 1
  omega
theorem aM1 {C : Cfg} {i : Nat} (h : i < C.nP) : aM C (2 * i + 1) = (C.s i + 2) / 3 := by
  unfold aM
  rw [if_pos (by omega), if_neg (by omega)]
  congr 3
  omega
theorem aM2 {C : Cfg} {i : Nat} : aM C (2 * C.nP + i) = fC C i := by
  unfold aM
  rw [if_neg (by omega)]
  congr 1
  omega
theorem aO_succ (C : Cfg) (k : Nat) : aO C (k + 1) = aO C k + aM C k := rfl
theorem aO0 {C : Cfg} : ∀ i, i ≤ C.nP → aO C (2 * i) = sumF (fP C) i
  | 0, _ => rfl
  | i + 1, h => by
    rw [show 2 * (i + 1) = 2 * i + 1 + 1 by omega, aO_succ, aO_succ, aM0 (by omega), aM1 (by omega), aO0 i (by omega)]
    show _ = sumF (fP C) i + fP C i
    unfold fP
    omega
theorem aO1 {C : Cfg} {i : Nat} (h : i < C.nP) : aO C (2 * i + 1) = sumF (fP C) i + C.q i := by
  rw [aO_succ, aM0 h, aO0 i (by omega)]
theorem aO2 {C : Cfg} : ∀ i, aO C (2 * C.nP + i) = sumF (fP C) C.nP + sumF (fC C) i
  | 0 => by
    rw [Nat.add_zero, aO0 _ (Nat.le_refl _)]
    show _ = _ + 0
    omega
  | i + 1 => by
    rw [← Nat.add_assoc, aO_succ, aM2, aO2 i]
    show _ = _ + (sumF (fC C) i + fC C i)
    omega
/-- the iterator's state behind k areas: where its own two cells are, and what lay there -/
def AS (J : Nat → World → Prop) (C : Cfg) (l B : Nat) (w : World) (k : Nat) (V : World) : Prop :=
  J k V ∧ V.heap[B + 1]? = some (.cells #[.int .i64 (aO C k)] 3 (0, 0)) ∧ V.heap[B]? = some (.cells #[.func (.yield l) #[] #[]] 132 (0, 0)) ∧ Below w.heap.size w V
theorem AS.below {J : Nat → World → Prop} {C : Cfg} {l B : Nat} {w : World} {k : Nat} {V V' : World} (hJ : ∀ k X Y, Below B X Y → J k X → J k Y) (h : AS J C l B w k V) (hb : Below V.heap.size V V') : AS J C l B w k V' :=
  ⟨hJ k _ _ (hb.mono (by have := bk_lt h.2.2.1; omega)) h.1, bk_below h.2.1 hb, bk_below h.2.2.1 hb, bstep h.2.2.2 hb⟩
theorem tell_as (l N B k n : Nat) (C : Cfg) (J : Nat → World → Prop) (Jx : World → Prop) (w V : World) (hJ : ∀ k X Y, Below B X Y → J k X → J k Y)
    (hY : ∀ k V, k < N → J k V → YieldAt Fence.wide 0 Try.prog l (aV C k) V fun e V' => (e = .returned (.bool true) ∧ J (k + 1) V' ∧ Kept l V V') ∨ (e = .returned (.bool false) ∧ Jx V'))
    (kd ix mn : Int) (e1 : aK C k = kd) (e2 : ((aI C k : Nat) : Int) = ix) (e3 : aM C k = mn)
    (hl1 : w.heap.size ≤ l) (hl : l < B) (hk : k < N) (h0 : 0 ≤ aO C k) (h1 : 0 ≤ aM C k) (h2 : aO C k + aM C k ≤ 100000) (h : AS J C l B w k V) :
    CallsIn Fence.wide n Try.prog 71 #[.agg #[.int .i64 kd, .int .i64 ix, .int .i64 mn], .pointer (some ⟨B + 1, 0, none⟩), .pointer (some ⟨B, 0, none⟩)] V fun e V' =>
      (e = .returned (.bool true) ∧ AS J C l B w (k + 1) V' ∧ Kept2 l (B + 1) V V') ∨ (e = .returned (.bool false) ∧ Jx V') := by
  subst e1 e2 e3
  refine (tell_in l N B (B + 1) B k n C J Jx hJ (fun V hv => hY k V hk hv) V (by omega) (by omega) (by omega) hl h.1 h.2.1 h.2.2.1 h0 h1 h2).mono ?_
  rintro e V' (⟨rfl, a1, a2, a3⟩ | ⟨rfl, a1⟩)
  · exact .inl ⟨rfl, ⟨a1, a2, a3.blk h.2.2.1 (by omega) (by omega), a3.below h.2.2.2 hl1 (by omega) h.2.2.2.size⟩, a3⟩
  · exact .inr ⟨rfl, a1⟩
set_option maxRecDepth 20000 in
set_option maxHeartbeats 4000000 in
theorem areas_iter (C : Cfg) (ly : Lay) (Bc : Nat) (w : World) (hI : IsC w C ly) (hc : w.heap[Bc]? = some (.cells (cfgV C ly) 26 (0, 0))) (hok : NumOk C) :
    Iter Fence.wide Try.prog 70 #[.pointer (some ⟨Bc, 0, none⟩)] (2 * C.nP + C.nC) (aV C) w := by
  intro n l J Jx W hW hl1 hl2 hJ hJx hY h0
  have hmf : ∀ (fn : Fn) (first cap : Array Value) (w : World), (Instr.makeFunc fn first cap).run Try.prog w = .ok (.func fn first cap) w := fun _ _ _ _ => rfl
  obtain ⟨pP, cP, pW, cW, pC, cC⟩ := ly
  have hNN := hok.N
  have hclt := bk_lt hc
  unfold cfgV at hc
  simp only at hc
  have HW := Lib.hid hW
  have HI := Lib.hid hI
  have HC := Lib.hid hc
  have HJ := Lib.hid hJ
  have HJx := Lib.hid hJx
  have HY := Lib.hid hY
  have H0 := Lib.hid h0
  have HOK := Lib.hid hok
  have hzW := hW.size
  have HCW := Lib.hid ((hW.block _ hclt).trans hc)
  have x0 : W.cell? ⟨Bc, 0, none⟩ = some (.slice pP C.nP cP) := (bk_cell HCW.out 0).trans rfl
  have hclt2 : Bc < W.heap.size := by omega
  clear hW hI hc hJ hJx hY h0 hok
  refine callsIn_of_wp Try.func70 rfl trivial ?_ rfl
  simp only [Try.ntmps70, List.size_toArray, List.length_cons, List.length_nil, Nat.reduceAdd, Nat.reduceSub, Array.replicate_succ, Array.replicate_zero, List.push_toArray, List.append_toArray, List.nil_append, List.cons_append]
  have HTL := Lib.hid fun (k m : Nat) (V : World) (kd ix mn : Int) (e1 : aK C k = kd) (e2 : ((aI C k : Nat) : Int) = ix) (e3 : aM C k = mn) (hk : k < 2 * C.nP + C.nC) (h0 : 0 ≤ aO C k) (h1 : 0 ≤ aM C k) (h2 : aO C k + aM C k ≤ 100000) (h : AS J C l W.heap.size w k V) =>
    tell_as l (2 * C.nP + C.nC) W.heap.size k m C J Jx w V HJ.out HY.out kd ix mn e1 e2 e3 hl1 hl2 hk h0 h1 h2 h
  clear HY
  gi_wp2_with fail
  gi_loopw [13] (fun iv wr => ∃ i : Nat, i ≤ C.nP ∧ iv = .int .i64 i ∧ AS J C l W.heap.size w (2 * i) wr) (fun iv _ => C.nP - (intOf iv).toNat)
  case atStart =>
    refine ⟨0, by omega, rfl, HJ.out 0 _ _ ?_ H0.out, bk_new' _ _ _ (by simp), bk_alloc (bk_new _ _) _, ?_⟩
    · exact ((Below.refl _ _).alloc (Nat.le_refl _) _).alloc (by simp) _
    · exact (HW.out.alloc HW.out.size _).alloc (by have := HW.out.size; simp; omega) _
  case round =>
    obtain ⟨i, hi, rfl, hS⟩ := hrel
    have HS := Lib.hid hS
    have hzr := hS.2.2.2.size
    have hzB := bk_lt hS.2.1
    clear hS
    by_cases hin : i < C.nP
    · have hin' : (i : Int) < C.nP := by omega
      have hbd := HOK.out.P hin
      have hsm := HOK.out.sumP hi
      have hsm2 := HOK.out.sumP (k := i + 1) (by omega)
      rcases HI.out.P with h0 | ⟨b, o, e5, hc⟩
      · omega
      simp only at e5
      subst e5
      have y0 := (HS.out.2.2.2.cell (p := ⟨b, o + i * 2, none⟩) (block_lt_of_cell (hc i hin).1)).trans (hc i hin).1
      have y1 := (HS.out.2.2.2.cell (p := ⟨b, o + i * 2 + 1, none⟩) (block_lt_of_cell (hc i hin).2)).trans (hc i hin).2
      clear hc
      have hsp : sumF (fP C) (i + 1) = sumF (fP C) i + fP C i := rfl
      have hfp : fP C i = C.q i + (C.s i + 2) / 3 := rfl
      have o0 := aO0 (C := C) i hi
      have o1 := aO1 (C := C) hin
      have m0 := aM0 (C := C) hin
      have m1 := aM1 (C := C) hin
      have b0 : 0 ≤ aO C (2 * i) ∧ 0 ≤ aM C (2 * i) ∧ aO C (2 * i) + aM C (2 * i) ≤ 100000 := by omega
      have b1 : 0 ≤ aO C (2 * i + 1) ∧ 0 ≤ aM C (2 * i + 1) ∧ aO C (2 * i + 1) + aM C (2 * i + 1) ≤ 100000 := by omega
      have HT0 := Lib.hid fun (m : Nat) (V : World) (h : AS J C l W.heap.size w (2 * i) V) => HTL.out (2 * i) m V 0 i (C.q i) (aK0 hin) (by rw [aI0 hin]) m0 (by omega) b0.1 b0.2.1 b0.2.2 h
      have HT1 := Lib.hid fun (m : Nat) (V : World) (h : AS J C l W.heap.size w (2 * i + 1) V) => HTL.out (2 * i + 1) m V 1 i ((C.s i + 2) / 3) (aK1 hin) (by rw [aI1 hin]) m1 (by omega) b1.1 b1.2.1 b1.2.2 h
      clear hsp hfp o0 o1 m0 m1 b0 b1
      generalize C.q i = qi at *
      generalize C.s i = si at *
      have hp : (wr.alloc (.cells #[.int .i64 qi, .int .i64 si] 94)).heap[wr.heap.size]? = some (.cells #[.int .i64 qi, .int .i64 si] 94 (0, 0)) := bk_new _ _
      have HPB := Lib.hid hp
      have HS1 := Lib.hid (HS.out.below HJ.out (V' := wr.alloc (.cells #[.int .i64 qi, .int .i64 si] 94)) ((Below.refl _ _).alloc (Nat.le_refl _) _))
      clear hp
      gi_wp2_with fail
      refine ⟨trivial, (fun h => by cases h), ?_⟩
      refine (HT0.out _ _ HS1.out).mono ?_
      rintro e V1 (⟨rfl, hS1, hk1⟩ | ⟨rfl, hx⟩)
      · have y2 : V1.cell? ⟨wr.heap.size, 1, none⟩ = some (.int .i64 si) := (bk_cell (hk1.blk HPB.out (by omega) (by omega)) 1).trans rfl
        have HS2 := Lib.hid hS1
        clear hS1 hk1
        gi_wp2_with fail
        refine ⟨trivial, (fun h => by cases h), ?_⟩
        refine (callsIn_wide.2 (by_any si 3 _ (by omega) (by omega) (by omega) (by omega))).mono ?_
        rintro e w' ⟨rfl, rfl⟩
        rw [show si + 3 - 1 = si + 2 by omega]
        gi_wp2_with fail
        refine ⟨trivial, (fun h => by cases h), ?_⟩
        refine (HT1.out _ _ HS2.out).mono ?_
        rintro e V2 (⟨rfl, hS3, hk3⟩ | ⟨rfl, hx⟩)
        · have HS3 := Lib.hid hS3
          clear hS3 hk3
          gi_wp2_with fail
          exact ⟨⟨i + 1, by omega, by go_num, HS3.out⟩, by simp [intOf]; omega⟩
        · gi_wp2_with fail
          refine bodyPost_ret (results_none rfl _ _ _) rfl ?_
          exact ⟨⟨_, rfl⟩, .inr hx⟩
      · gi_wp2_with fail
        refine ⟨trivial, ?_⟩
        gi_wp2_with fail
        refine ⟨fun _ h => (by cases h), ?_⟩
        gi_wp2_with fail
        refine bodyPost_ret (results_none rfl _ _ _) rfl ?_
        exact ⟨⟨_, rfl⟩, .inr hx⟩
    · have hin' : ¬ (i : Int) < C.nP := by omega
      obtain rfl : i = C.nP := by omega
      have x2 : wr.cell? ⟨Bc, 2, none⟩ = some (.slice pC C.nC cC) := (HS.out.2.2.2.cell (p := ⟨Bc, 2, none⟩) hclt).trans ((bk_cell HC.out 2).trans rfl)
      obtain ⟨wo, rfl⟩ : ∃ wo : World, wo = wr := ⟨_, rfl⟩
      gi_wp2_with fail
      gi_loopw [39] (fun iv wr => ∃ i : Nat, i ≤ C.nC ∧ iv = .int .i64 i ∧ AS J C l W.heap.size w (2 * C.nP + i) wr) (fun iv _ => C.nC - (intOf iv).toNat)
      case atStart => exact ⟨0, by omega, rfl, HS.out⟩
      case round =>
        obtain ⟨i, hi, rfl, hS⟩ := hrel
        have HS := Lib.hid hS
        have hzr := hS.2.2.2.size
        have hzB := bk_lt hS.2.1
        clear hS
        by_cases hin : i < C.nC
        · have hin' : (i : Int) < C.nC := by omega
          have hbd := HOK.out.C hin
          have hwd := words_bd hbd.2.2.2.1 hbd.2.2.2.2
          rcases HI.out.C with h0 | ⟨b, o, e5, hc⟩
          · omega
          simp only at e5
          subst e5
          have y0 := (HS.out.2.2.2.cell (p := ⟨b, o + i * 4, none⟩) (block_lt_of_cell (hc i hin).1)).trans (hc i hin).1
          have y1 := (HS.out.2.2.2.cell (p := ⟨b, o + i * 4 + 1, none⟩) (block_lt_of_cell (hc i hin).2.1)).trans (hc i hin).2.1
          have y2 := (HS.out.2.2.2.cell (p := ⟨b, o + i * 4 + 2, none⟩) (block_lt_of_cell (hc i hin).2.2.1)).trans (hc i hin).2.2.1
          have y3 := (HS.out.2.2.2.cell (p := ⟨b, o + i * 4 + 3, none⟩) (block_lt_of_cell (hc i hin).2.2.2)).trans (hc i hin).2.2.2
          have hsm := HOK.out.sumP (Nat.le_refl _)
          have hsc := HOK.out.sumC hi
          have hfb := HOK.out.fC_bd hin
          have o0 := aO2 (C := C) i
          have m0 := aM2 (C := C) (i := i)
          have b0 : 0 ≤ aO C (2 * C.nP + i) ∧ 0 ≤ aM C (2 * C.nP + i) ∧ aO C (2 * C.nP + i) + aM C (2 * C.nP + i) ≤ 100000 := by omega
          have HT0 := Lib.hid fun (m : Nat) (V : World) (h : AS J C l W.heap.size w (2 * C.nP + i) V) => HTL.out (2 * C.nP + i) m V 2 i (fC C i) aK2 (by rw [aI2]) m0 (by omega) b0.1 b0.2.1 b0.2.2 h
          have HFC := Lib.hid (show fC C i = (C.cc i * (C.cw i + 1) + 31) / 32 from rfl)
          clear hsm hsc hfb o0 m0 b0 hc
          generalize C.cf i = fi at *
          generalize C.ct i = ti at *
          generalize C.cc i = ci at *
          generalize C.cw i = wi at *
          have s0 : IntKind.i64.wrap (wi + 1) = wi + 1 := IntWalk.i64_in _ (by omega)
          obtain ⟨pr, hpr⟩ : ∃ pr, ci * (wi + 1) = pr := ⟨_, rfl⟩
          rw [hpr] at hwd HFC
          have s1 : wrap64 (ci * (wi + 1)) = pr := by rw [hpr]; exact IntWalk.wrap64_in pr (by omega)
          have HFC2 := Lib.hid (show fC C i = (pr + 31) / 32 from HFC.out)
          clear hpr HFC
          have HS1 := Lib.hid (HS.out.below HJ.out (V' := wr.alloc (.cells #[.int .i64 fi, .int .i64 ti, .int .i64 ci, .int .i64 wi] 53)) ((Below.refl _ _).alloc (Nat.le_refl _) _))
          gi_wp2_with fail
          refine ⟨trivial, (fun h => by cases h), ?_⟩
          refine (callsIn_wide.2 (by_any pr 32 _ (by omega) (by omega) (by omega) (by omega))).mono ?_
          rintro e w' ⟨rfl, rfl⟩
          rw [show pr + 32 - 1 = pr + 31 by omega, ← HFC2.out]
          gi_wp2_with fail
          refine ⟨trivial, (fun h => by cases h), ?_⟩
          refine (HT0.out _ _ HS1.out).mono ?_
          rintro e V2 (⟨rfl, hS3, hk3⟩ | ⟨rfl, hx⟩)
          · have HS3 := Lib.hid hS3
            clear hS3 hk3
            gi_wp2_with fail
            exact ⟨⟨i + 1, by omega, by go_num, HS3.out⟩, by simp [intOf]; omega⟩
          · gi_wp2_with fail
            refine bodyPost_ret (results_none rfl _ _ _) rfl ?_
            exact ⟨⟨_, rfl⟩, .inr hx⟩
        · have hin' : ¬ (i : Int) < C.nC := by omega
          obtain rfl : i = C.nC := by omega
          gi_wp2_with fail
          go_end0
          exact ⟨⟨_, rfl⟩, .inl HS.out.1⟩
end Go.Proofs.Ytofkgceenppdbaa
