/- plan's find: the area of a kind and a place. -/
import Derived.Test.YtofkgceenppdbaaAreas
import Derived.BigRegionIn
namespace Go.Proofs.Ytofkgceenppdbaa
open Go.RowKit
set_option linter.unusedVariables false
set_option linter.unusedSimpArgs false
attribute [local go_sem] Oper.semAt_some
theorem areas_any (C : Cfg) (ly : Lay) (w : World) :
    Calls Try.prog 66 #[.agg (cfgV C ly)] w fun e w' => e = .returned (.func (.func 70) #[] #[.pointer (some ⟨w.heap.size, 0, none⟩)]) ∧ w' = w.alloc (.cells (cfgV C ly) 26) := by
  have hmf : ∀ (fn : Fn) (first cap : Array Value) (w : World), (Instr.makeFunc fn first cap).run Try.prog w = .ok (.func fn first cap) w := fun _ _ _ _ => rfl
  unfold cfgV
  go_enter Try.func66, Try.ntmps66
  go_wp2
  go_ret
  exact ⟨rfl, rfl⟩
theorem find_res (tmps : Array Value) (W : World) (a b c : Int) (p6 p7 p8 : Nat) (h6 : tmps[6]? = some (.pointer (some ⟨p6, 0, none⟩))) (h7 : tmps[7]? = some (.pointer (some ⟨p7, 0, none⟩))) (h8 : tmps[8]? = some (.pointer (some ⟨p8, 0, none⟩)))
    (c6 : W.cell? ⟨p6, 0, none⟩ = some (.int .i64 a)) (c7 : W.cell? ⟨p7, 0, none⟩ = some (.int .i64 b)) (c8 : W.cell? ⟨p8, 0, none⟩ = some (.int .i64 c)) :
    (results Try.f53 tmps).run Try.prog W = .ok (.tuple #[.int .i64 a, .int .i64 b, .int .i64 c]) W := by
  simp [results, Try.results53, go_sem, h6, h7, h8, c6, c7, c8]
/-- three cells stored -/
theorem three_cells {w : World} {p q r : Nat} {x y z : Value} {t u v : TypeId} (h6 : w.heap[p]? = some (.cells #[x] t (0, 0))) (h7 : w.heap[q]? = some (.cells #[y] u (0, 0))) (h8 : w.heap[r]? = some (.cells #[z] v (0, 0))) (hpq : p ≠ q) (hpr : p ≠ r) (hqr : q ≠ r) (a b c : Value) :
    (((w.setCell ⟨p, 0, none⟩ a).setCell ⟨q, 0, none⟩ b).setCell ⟨r, 0, none⟩ c).cell? ⟨p, 0, none⟩ = some a ∧ (((w.setCell ⟨p, 0, none⟩ a).setCell ⟨q, 0, none⟩ b).setCell ⟨r, 0, none⟩ c).cell? ⟨q, 0, none⟩ = some b ∧
      (((w.setCell ⟨p, 0, none⟩ a).setCell ⟨q, 0, none⟩ b).setCell ⟨r, 0, none⟩ c).cell? ⟨r, 0, none⟩ = some c := by
  have g6 := bk_far (bk_far (bk_set h6 0 a) (p := ⟨q, 0, none⟩) hpq b) (p := ⟨r, 0, none⟩) hpr c
  have g7 := bk_far (bk_set (bk_far h7 (p := ⟨p, 0, none⟩) (Ne.symm hpq) a) 0 b) (p := ⟨r, 0, none⟩) hqr c
  have g8 := bk_set (bk_far (bk_far h8 (p := ⟨p, 0, none⟩) (Ne.symm hpr) a) (p := ⟨q, 0, none⟩) (Ne.symm hqr) b) 0 c
  exact ⟨(bk_cell g6 0).trans rfl, (bk_cell g7 0).trans rfl, (bk_cell g8 0).trans rfl⟩
/-- does the k-th area answer? -/
def Hit (C : Cfg) (kind at' : Int) (k : Nat) : Prop := aK C k = kind ∧ ((aI C k : Nat) : Int) = at'
/-- what find answers -/
def FindR (C : Cfg) (kind at' : Int) (a b c : Int) : Prop :=
  (∃ k, k < 2 * C.nP + C.nC ∧ Hit C kind at' k ∧ (∀ j, j < k → ¬ Hit C kind at' j) ∧ a = aO C k ∧ b = aM C k ∧ c = 0) ∨ ((∀ j, j < 2 * C.nP + C.nC → ¬ Hit C kind at' j) ∧ a = 0 ∧ b = 0 ∧ c = 2)
def FindPost (C : Cfg) (kind at' : Int) (w : World) (e : Ending) (w' : World) : Prop := ∃ a b c, FindR C kind at' a b c ∧ e = .returned (.tuple #[.int .i64 a, .int .i64 b, .int .i64 c]) ∧ Below w.heap.size w w'
set_option maxRecDepth 20000 in
set_option maxHeartbeats 4000000 in
theorem find_bad (C : Cfg) (ly : Lay) (kind at' : Int) (w : World) (hI : IsC w C ly) (hN : C.nP ≤ 1000000 ∧ C.nW ≤ 1000000 ∧ C.nC ≤ 1000000) (hbad : ¬ CkOk C) :
    Calls Try.prog 53 #[.agg (cfgV C ly), .int .i64 kind, .int .i64 at'] w fun e w' => e = .returned (.tuple #[.int .i64 0, .int .i64 0, .int .i64 (ckE C)]) ∧ Below w.heap.size w w' := by
  have hck := fun (W : World) (h : IsC W C ly) => check_any C ly W h hN
  have hc2 : (ckE C == 0) = false := beq_eq_false_iff_ne.2 (by rcases ckE_cases C with ⟨h, _⟩ | ⟨_, h | h⟩ <;> first | exact absurd h hbad | omega)
  have HCK := Lib.hid hck
  have HI := Lib.hid hI
  obtain ⟨pP, cP, pW, cW, pC, cC⟩ := ly
  unfold cfgV at *
  simp only at *
  generalize ckE C = er at *
  clear hck hI hbad
  go_enter Try.func53, Try.ntmps53
  go_wp2_with fail
  refine (HCK.out _ (by exact HI.out.below (by go_grown))).mono ?_
  rintro e w1 ⟨rfl, hb⟩
  have HB1 := Lib.hid (bstep (a := w) (by go_grown) hb)
  have e6 : w1.heap[w.heap.size + 1 + 1 + 1]? = some (.cells #[.int .i64 0] 3 (0, 0)) := bk_below (by repeat (first | (refine bk_new' _ _ _ ?_; simp; done) | refine bk_alloc ?_ _)) hb
  have e7 : w1.heap[w.heap.size + 1 + 1 + 1 + 1]? = some (.cells #[.int .i64 0] 3 (0, 0)) := bk_below (by repeat (first | (refine bk_new' _ _ _ ?_; simp; done) | refine bk_alloc ?_ _)) hb
  have e8 : w1.heap[w.heap.size + 1 + 1 + 1 + 1 + 1]? = some (.cells #[.int .i64 0] 29 (0, 0)) := bk_below (by repeat (first | (refine bk_new' _ _ _ ?_; simp; done) | refine bk_alloc ?_ _)) hb
  have l8 := bk_lt e8
  have c6 : w1.cell? ⟨w.heap.size + 1 + 1 + 1, 0, none⟩ = some (.int .i64 0) := (bk_cell e6 0).trans rfl
  have c7 : w1.cell? ⟨w.heap.size + 1 + 1 + 1 + 1, 0, none⟩ = some (.int .i64 0) := (bk_cell e7 0).trans rfl
  have c8 : w1.cell? ⟨w.heap.size + 1 + 1 + 1 + 1 + 1, 0, none⟩ = some (.int .i64 0) := (bk_cell e8 0).trans rfl
  have f6 := bk_frozen e6 0
  have f7 := bk_frozen e7 0
  have f8 := bk_frozen e8 0
  have H3 := Lib.hid (three_cells e6 e7 e8 (by omega) (by omega) (by omega) (.int .i64 0) (.int .i64 0) (.int .i64 er))
  clear hb e6 e7 e8
  go_wp2
  refine bodyPost_ret (find_res _ _ 0 0 er _ _ _ rfl rfl rfl H3.out.1 H3.out.2.1 H3.out.2.2) rfl ?_
  exact ⟨rfl, ((HB1.out.setCell (p := ⟨w.heap.size + 1 + 1 + 1, 0, none⟩) (by simp; omega) _).setCell (p := ⟨w.heap.size + 1 + 1 + 1 + 1, 0, none⟩) (by simp; omega) _).setCell (p := ⟨w.heap.size + 1 + 1 + 1 + 1 + 1, 0, none⟩) (by simp; omega) _⟩
/-- find's own cells -/
def FB (n : Nat) (kind at' a b c : Int) (W : World) : Prop :=
  W.heap[n + 1]? = some (.cells #[.int .i64 kind] 3 (0, 0)) ∧ W.heap[n + 1 + 1]? = some (.cells #[.int .i64 at'] 3 (0, 0)) ∧ W.heap[n + 1 + 1 + 1]? = some (.cells #[.int .i64 a] 3 (0, 0)) ∧
    W.heap[n + 1 + 1 + 1 + 1]? = some (.cells #[.int .i64 b] 3 (0, 0)) ∧ W.heap[n + 1 + 1 + 1 + 1 + 1]? = some (.cells #[.int .i64 c] 29 (0, 0))
theorem FB.below {n B : Nat} {kind at' a b c : Int} {W W' : World} (h : FB n kind at' a b c W) (hb : Below B W W') (hB : n + 1 + 1 + 1 + 1 + 1 < B) : FB n kind at' a b c W' :=
  ⟨(hb.block _ (by omega)).trans h.1, (hb.block _ (by omega)).trans h.2.1, (hb.block _ (by omega)).trans h.2.2.1, (hb.block _ (by omega)).trans h.2.2.2.1, (hb.block _ (by omega)).trans h.2.2.2.2⟩
theorem FB.store {n : Nat} {kind at' : Int} {W : World} (h : FB n kind at' 0 0 0 W) (a b c : Int) :
    FB n kind at' a b c (((W.setCell ⟨n + 1 + 1 + 1, 0, none⟩ (.int .i64 a)).setCell ⟨n + 1 + 1 + 1 + 1, 0, none⟩ (.int .i64 b)).setCell ⟨n + 1 + 1 + 1 + 1 + 1, 0, none⟩ (.int .i64 c)) := by
  obtain ⟨h1, h2, h3, h4, h5⟩ := h
  refine ⟨?_, ?_, ?_, ?_, ?_⟩
  · exact bk_far (bk_far (bk_far h1 (p := ⟨n + 1 + 1 + 1, 0, none⟩) (show (_ : Nat) ≠ _ by dsimp only; omega) _) (p := ⟨n + 1 + 1 + 1 + 1, 0, none⟩) (show (_ : Nat) ≠ _ by dsimp only; omega) _) (p := ⟨n + 1 + 1 + 1 + 1 + 1, 0, none⟩) (show (_ : Nat) ≠ _ by dsimp only; omega) _
  · exact bk_far (bk_far (bk_far h2 (p := ⟨n + 1 + 1 + 1, 0, none⟩) (show (_ : Nat) ≠ _ by dsimp only; omega) _) (p := ⟨n + 1 + 1 + 1 + 1, 0, none⟩) (show (_ : Nat) ≠ _ by dsimp only; omega) _) (p := ⟨n + 1 + 1 + 1 + 1 + 1, 0, none⟩) (show (_ : Nat) ≠ _ by dsimp only; omega) _
  · exact bk_far (bk_far (bk_set h3 0 _) (p := ⟨n + 1 + 1 + 1 + 1, 0, none⟩) (show (_ : Nat) ≠ _ by dsimp only; omega) _) (p := ⟨n + 1 + 1 + 1 + 1 + 1, 0, none⟩) (show (_ : Nat) ≠ _ by dsimp only; omega) _
  · exact bk_far (bk_set (bk_far h4 (p := ⟨n + 1 + 1 + 1, 0, none⟩) (show (_ : Nat) ≠ _ by dsimp only; omega) _) 0 _) (p := ⟨n + 1 + 1 + 1 + 1 + 1, 0, none⟩) (show (_ : Nat) ≠ _ by dsimp only; omega) _
  · exact bk_set (bk_far (bk_far h5 (p := ⟨n + 1 + 1 + 1, 0, none⟩) (show (_ : Nat) ≠ _ by dsimp only; omega) _) (p := ⟨n + 1 + 1 + 1 + 1, 0, none⟩) (show (_ : Nat) ≠ _ by dsimp only; omega) _) 0 _
theorem store3_other (W : World) {n j : Nat} {a b c : Value} (h : j < n + 3 ∨ n + 5 < j) :
    (((W.setCell ⟨n + 1 + 1 + 1, 0, none⟩ a).setCell ⟨n + 1 + 1 + 1 + 1, 0, none⟩ b).setCell ⟨n + 1 + 1 + 1 + 1 + 1, 0, none⟩ c).heap[j]? = W.heap[j]? :=
  ((Below.heap_setCell _ ⟨n + 1 + 1 + 1 + 1 + 1, 0, none⟩ _ j (by dsimp only; omega)).trans (Below.heap_setCell _ ⟨n + 1 + 1 + 1 + 1, 0, none⟩ _ j (by dsimp only; omega))).trans (Below.heap_setCell _ ⟨n + 1 + 1 + 1, 0, none⟩ _ j (by dsimp only; omega))
set_option maxRecDepth 20000 in
set_option maxHeartbeats 4000000 in
theorem find_any (C : Cfg) (ly : Lay) (kind at' : Int) (w : World) (hI : IsC w C ly) (hN : C.nP ≤ 1000000 ∧ C.nW ≤ 1000000 ∧ C.nC ≤ 1000000) (hok : CkOk C) :
    Calls Try.prog 53 #[.agg (cfgV C ly), .int .i64 kind, .int .i64 at'] w (FindPost C kind at' w) := by
  have hck := fun (W : World) (h : IsC W C ly) => check_any C ly W h hN
  rw [ckE_ok hok] at hck
  have har := areas_any C ly
  have hai := fun (Bc : Nat) (V : World) (h : IsC V C ly) (hc : V.heap[Bc]? = some (.cells (cfgV C ly) 26 (0, 0))) => areas_iter C ly Bc V h hc hok.1
  have HCK := Lib.hid hck
  have HAR := Lib.hid har
  have HAI := Lib.hid hai
  have HI := Lib.hid hI
  clear hck hI har hai hok
  generalize hly : ly = ly' at *
  obtain ⟨pP, cP, pW, cW, pC, cC⟩ := ly
  subst hly
  unfold cfgV at *
  simp only at *
  refine (callsIn_wide (n := 3)).1 ?_
  refine callsIn_of_wp_marks Try.func53 rfl trivial ?_ rfl
  simp only [Try.ntmps53, List.size_toArray, List.length_cons, List.length_nil, Nat.reduceAdd, Nat.reduceSub, Array.replicate_succ, Array.replicate_zero, List.push_toArray, List.append_toArray, List.nil_append, List.cons_append]
  gi_wp2_with fail
  refine ⟨trivial, ?_⟩
  refine (callsIn_wide.2 (HCK.out _ (by exact HI.out.below (by go_grown)))).mono ?_
  rintro e w1 ⟨rfl, hb⟩
  have HB1 := Lib.hid (bstep (a := w) (by go_grown) hb)
  have e3 : w1.heap[w.heap.size]? = some (.cells #[.slice pP C.nP cP, .slice pW C.nW cW, .slice pC C.nC cC] 26 (0, 0)) := bk_below (by repeat (first | (refine bk_new' _ _ _ ?_; simp; done) | refine bk_alloc ?_ _)) hb
  have hFB : FB w.heap.size kind at' 0 0 0 w1 := ⟨bk_below (by repeat (first | (refine bk_new' _ _ _ ?_; simp; done) | refine bk_alloc ?_ _)) hb, bk_below (by repeat (first | (refine bk_new' _ _ _ ?_; simp; done) | refine bk_alloc ?_ _)) hb, bk_below (by repeat (first | (refine bk_new' _ _ _ ?_; simp; done) | refine bk_alloc ?_ _)) hb,
    bk_below (by repeat (first | (refine bk_new' _ _ _ ?_; simp; done) | refine bk_alloc ?_ _)) hb, bk_below (by repeat (first | (refine bk_new' _ _ _ ?_; simp; done) | refine bk_alloc ?_ _)) hb⟩
  have l8 := bk_lt hFB.2.2.2.2
  have c30 : w1.cell? ⟨w.heap.size, 0, none⟩ = some (.slice pP C.nP cP) := (bk_cell e3 0).trans rfl
  have c31 : w1.cell? ⟨w.heap.size, 1, none⟩ = some (.slice pW C.nW cW) := (bk_cell e3 1).trans rfl
  have c32 : w1.cell? ⟨w.heap.size, 2, none⟩ = some (.slice pC C.nC cC) := (bk_cell e3 2).trans rfl
  have HFB := Lib.hid hFB
  clear hb hFB e3
  gi_wp2_with fail
  refine ⟨trivial, ?_⟩
  refine (callsIn_wide.2 (HAR.out _)).mono ?_
  rintro e w2 ⟨rfl, rfl⟩
  gi_wp2_with fail
  refine wpIn_abs (fun V => V.heap[w1.heap.size]? = some (.cells #[.slice pP C.nP cP, .slice pW C.nW cW, .slice pC C.nC cC] 26 (0, 0)) ∧ FB w.heap.size kind at' 0 0 0 V ∧ Below w.heap.size w V)
    ⟨bk_new _ _, HFB.out.below ((Below.refl _ _).alloc (Nat.le_refl _) _) l8, HB1.out.alloc HB1.out.size _⟩ ?_
  rintro V ⟨hc, hfb, hbv⟩
  have hVl := bk_lt hfb.2.2.2.2
  have hiter := HAI.out w1.heap.size V (by exact HI.out.below hbv) hc
  have HFV := Lib.hid hfb
  have HBV := Lib.hid hbv
  clear hc hfb hbv c30 c31 c32 HFB HAI HAR HCK HB1
  refine wp_range rfl rfl (gf := 70) (lb := #[.pointer (some ⟨w1.heap.size, 0, none⟩)]) rfl trivial (enters_of Try.func70 (by kernel_rfl) rfl) hiter (fun _ => rfl)
    (fun k W => (∀ j, j < k → ¬ Hit C kind at' j) ∧ FB w.heap.size kind at' 0 0 0 W ∧ Below w.heap.size w W)
    (fun c W => c = .ret ∧ ∃ k, k < 2 * C.nP + C.nC ∧ Hit C kind at' k ∧ (∀ j, j < k → ¬ Hit C kind at' j) ∧ FB w.heap.size kind at' (aO C k) (aM C k) 0 W ∧ Below w.heap.size w W)
    (fun k A B hb h => ⟨h.1, h.2.1.below hb hVl, h.2.2.trans (hb.mono HBV.out.size)⟩)
    (fun c A B hb ⟨hcc, k, a1, a2, a3, a4, a5⟩ => ⟨hcc, k, a1, a2, a3, a4.below hb hVl, a5.trans (hb.mono HBV.out.size)⟩)
    ⟨(fun j hj => by omega), HFV.out, HBV.out⟩ ?round ?done ?stop
  case round =>
    intro k m W hk hI hsz
    have HIk := Lib.hid hI
    clear hI hiter
    have hbx : (W.alloc (.cells #[.int .i64 (aK C k), .int .i64 (aI C k), .int .i64 (aM C k)] 128)).heap[W.heap.size]? = some (.cells #[.int .i64 (aK C k), .int .i64 (aI C k), .int .i64 (aM C k)] 128 (0, 0)) := bk_new _ _
    have HBX := Lib.hid hbx
    clear hbx
    unfold aV
    gi_wp2
    refine ⟨(Below.refl _ _).alloc (Nat.le_refl _) _, fun W2 hk2 hi2 => ?_⟩
    have hx2 := hk2.blk HBX.out (by omega)
    have x0 : W2.cell? ⟨W.heap.size, 0, none⟩ = some (.int .i64 (aK C k)) := (bk_cell hx2 0).trans rfl
    have x1 : W2.cell? ⟨W.heap.size, 1, none⟩ = some (.int .i64 ((aI C k : Nat) : Int)) := (bk_cell hx2 1).trans rfl
    have x2 : W2.cell? ⟨W.heap.size, 2, none⟩ = some (.int .i64 (aM C k)) := (bk_cell hx2 2).trans rfl
    obtain ⟨g1, g2, g3, g4, g5⟩ := hi2.2.1
    have y1 : W2.cell? ⟨w.heap.size + 1, 0, none⟩ = some (.int .i64 kind) := (bk_cell g1 0).trans rfl
    have y2 : W2.cell? ⟨w.heap.size + 1 + 1, 0, none⟩ = some (.int .i64 at') := (bk_cell g2 0).trans rfl
    have y3 : W2.cell? ⟨w.heap.size + 1 + 1 + 1, 0, none⟩ = some (.int .i64 0) := (bk_cell g3 0).trans rfl
    have y4 : W2.cell? ⟨w.heap.size + 1 + 1 + 1 + 1, 0, none⟩ = some (.int .i64 0) := (bk_cell g4 0).trans rfl
    have y5 : W2.cell? ⟨w.heap.size + 1 + 1 + 1 + 1 + 1, 0, none⟩ = some (.int .i64 0) := (bk_cell g5 0).trans rfl
    have f3 := bk_frozen g3 0
    have f4 := bk_frozen g4 0
    have f5 := bk_frozen g5 0
    have HI2 := Lib.hid hi2
    have HIT := Lib.hid (show Hit C kind at' k ↔ (aK C k = kind ∧ ((aI C k : Nat) : Int) = at') from Iff.rfl)
    have hWl := bk_lt hx2
    have hwl : w.heap.size + 1 + 1 + 1 + 1 + 1 < W.heap.size := by omega
    clear hx2 g1 g2 g3 g4 g5 hi2 hk2
    obtain ⟨kd, hkd⟩ : ∃ kd, aK C k = kd := ⟨_, rfl⟩
    obtain ⟨ix, hix⟩ : ∃ ix : Int, ((aI C k : Nat) : Int) = ix := ⟨_, rfl⟩
    obtain ⟨mn, hmn⟩ : ∃ mn, aM C k = mn := ⟨_, rfl⟩
    obtain ⟨ao, hao⟩ : ∃ ao, aO C k = ao := ⟨_, rfl⟩
    rw [hkd] at x0 ⊢
    rw [hix] at x1 ⊢
    rw [hmn] at x2 ⊢
    rw [hao]
    rw [hkd, hix] at HIT
    have HAO := Lib.hid hao
    have HMN := Lib.hid hmn
    clear hkd hix hmn hao HBX
    have hb1 : ∀ j, j < k → ¬ Hit C kind at' j := HI2.out.1
    have HNB := Lib.hid hb1
    clear hb1
    by_cases hh : kd = kind
    · subst hh
      by_cases hj : ix = at'
      · subst hj
        have hyes : Hit C kd ix k := HIT.out.2 ⟨rfl, rfl⟩
        have HY := Lib.hid hyes
        clear hyes
        gi_wp2_with fail
        gi_region
        all_goals
          gi_wp2_with fail
          refine ⟨store3_other W2 (by omega), store3_other W2 (by omega), rfl, k, hk, HY.out, HNB.out, ?_, ?_⟩
          · rw [HAO.out, HMN.out]
            exact HI2.out.2.1.store _ _ _
          · exact (((bdrewN HI2.out.2.2 1).setCell (p := ⟨w.heap.size + 1 + 1 + 1, 0, none⟩) (by simp; omega) _).setCell (p := ⟨w.heap.size + 1 + 1 + 1 + 1, 0, none⟩) (by simp; omega) _).setCell (p := ⟨w.heap.size + 1 + 1 + 1 + 1 + 1, 0, none⟩) (by simp; omega) _
      · have hb2 : (ix == at') = false := beq_eq_false_iff_ne.2 hj
        have hno : ¬ Hit C kd at' k := fun h => hj (HIT.out.1 h).2
        have HNO := Lib.hid hno
        clear hno hj
        gi_wp2_with fail
        refine ⟨Below.refl _ _, fun j hj => ?_, HI2.out.2.1, HI2.out.2.2⟩
        rcases Nat.lt_succ_iff_lt_or_eq.1 hj with h | h
        · exact HNB.out j h
        · subst h; exact HNO.out
    · have hb1 : (kd == kind) = false := beq_eq_false_iff_ne.2 hh
      have hno : ¬ Hit C kind at' k := fun h => hh (HIT.out.1 h).1
      have HNO := Lib.hid hno
      clear hno hh
      gi_wp2_with fail
      refine ⟨Below.refl _ _, fun j hj => ?_, HI2.out.2.1, HI2.out.2.2⟩
      rcases Nat.lt_succ_iff_lt_or_eq.1 hj with h | h
      · exact HNB.out j h
      · subst h; exact HNO.out
  case done =>
    rintro W ⟨h1, h2, h3⟩ hD
    have x3 : W.cell? ⟨w.heap.size + 1 + 1 + 1, 0, none⟩ = some (.int .i64 0) := (bk_cell h2.2.2.1 0).trans rfl
    have x4 : W.cell? ⟨w.heap.size + 1 + 1 + 1 + 1, 0, none⟩ = some (.int .i64 0) := (bk_cell h2.2.2.2.1 0).trans rfl
    have x5 : W.cell? ⟨w.heap.size + 1 + 1 + 1 + 1 + 1, 0, none⟩ = some (.int .i64 0) := (bk_cell h2.2.2.2.2 0).trans rfl
    have f3 := bk_frozen h2.2.2.1 0
    have f4 := bk_frozen h2.2.2.2.1 0
    have f5 := bk_frozen h2.2.2.2.2 0
    have H1 := Lib.hid h1
    have HS := Lib.hid (h2.store 0 0 2)
    have HB := Lib.hid (((h3.setCell (p := ⟨w.heap.size + 1 + 1 + 1, 0, none⟩) (by simp; omega) (.int .i64 0)).setCell (p := ⟨w.heap.size + 1 + 1 + 1 + 1, 0, none⟩) (by simp; omega) (.int .i64 0)).setCell (p := ⟨w.heap.size + 1 + 1 + 1 + 1 + 1, 0, none⟩) (by simp; omega) (.int .i64 2))
    have hD2 := (store3_other W (n := w.heap.size) (j := V.heap.size) (a := .int .i64 0) (b := .int .i64 0) (c := .int .i64 2) (by omega)).trans hD
    have HD := Lib.hid hD2
    have hl5 := bk_lt h2.2.2.2.2
    clear h1 h2 h3 hD hD2
    gi_wp2_with fail
    refine ⟨by simp, .inl ⟨_, _, rfl, run_takeDeferred HD.out, ?_⟩⟩
    obtain ⟨_, _, g3, g4, g5⟩ := HS.out
    have hk := kept_put (((W.setCell ⟨w.heap.size + 1 + 1 + 1, 0, none⟩ (.int .i64 0)).setCell ⟨w.heap.size + 1 + 1 + 1 + 1, 0, none⟩ (.int .i64 0)).setCell ⟨w.heap.size + 1 + 1 + 1 + 1 + 1, 0, none⟩ (.int .i64 2)) V.heap.size (.deferred none)
    exact ⟨_, find_res _ _ 0 0 2 _ _ _ rfl rfl rfl ((bk_cell (hk.blk g3 (by omega)) 0).trans rfl) ((bk_cell (hk.blk g4 (by omega)) 0).trans rfl) ((bk_cell (hk.blk g5 (by omega)) 0).trans rfl),
      0, 0, 2, .inr ⟨H1.out, rfl, rfl, rfl⟩, rfl, below_put HB.out (by have := HBV.out.size; omega) _⟩
  case stop =>
    rintro c W ⟨rfl, k, a1, a2, a3, a4, a5⟩ hD
    have H1 := Lib.hid a1
    have H2 := Lib.hid a2
    have H3 := Lib.hid a3
    have H4 := Lib.hid a4
    have H5 := Lib.hid a5
    have HD := Lib.hid hD
    clear a1 a2 a3 a4 a5 hD
    gi_wp2_with fail
    refine ⟨by simp, .inl ⟨_, _, rfl, run_takeDeferred HD.out, ?_⟩⟩
    obtain ⟨_, _, g3, g4, g5⟩ := H4.out
    have hk := kept_put W V.heap.size (.deferred none)
    exact ⟨_, find_res _ _ (aO C k) (aM C k) 0 _ _ _ rfl rfl rfl ((bk_cell (hk.blk g3 (by omega)) 0).trans rfl) ((bk_cell (hk.blk g4 (by omega)) 0).trans rfl) ((bk_cell (hk.blk g5 (by omega)) 0).trans rfl),
      _, _, 0, .inl ⟨k, H1.out, H2.out, H3.out, rfl, rfl, rfl⟩, rfl, below_put H5.out (by have := HBV.out.size; omega) _⟩
end Go.Proofs.Ytofkgceenppdbaa
