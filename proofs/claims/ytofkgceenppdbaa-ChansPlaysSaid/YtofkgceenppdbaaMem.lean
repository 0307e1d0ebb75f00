/- The machine's memory: New, Frames, Write, Read. -/
import Derived.Test.YtofkgceenppdbaaOwn
import Derived.Lib.Hide
import Derived.OwnWalk
import Derived.BigQuiet
import Derived.Deep.QuietTactic
import Derived.Deep.RegionHeld3
import Derived.Laws.EntriesVeiled
import Derived.Lib.SliceRun
namespace Go.Proofs.Ytofkgceenppdbaa
open Go.RowKit
set_option linter.unusedVariables false
set_option linter.unusedSimpArgs false
/-- a memory of so many frames, its words -/
structure MemS (w : World) (mm fb nF : Nat) (M : Nat → Int) : Prop where
  hd : w.heap[mm]? = some (.cells #[.slice (some ⟨fb, 0, none⟩) nF nF] 76 (0, 0))
  fr : ∃ cs, w.heap[fb]? = some (.cells cs 112 (0, 0)) ∧ ∀ i, i < nF * 32 → cs[i]? = some (.int .u32 (M i))
  ne : mm ≠ fb
theorem MemS.kept {w w' : World} {mm fb nF g : Nat} {M : Nat → Int} (h : MemS w mm fb nF M) (k : Kept g w w') (h1 : mm ≠ g) (h2 : fb ≠ g) : MemS w' mm fb nF M := by
  obtain ⟨cs, c1, c2⟩ := h.fr
  exact ⟨k.blk h.hd h1, ⟨cs, k.blk c1 h2, c2⟩, h.ne⟩
theorem MemS.below {w w' : World} {mm fb nF : Nat} {M : Nat → Int} (h : MemS w mm fb nF M) (hb : Below w.heap.size w w') : MemS w' mm fb nF M := by
  obtain ⟨cs, c1, c2⟩ := h.fr
  exact ⟨bk_below h.hd hb, ⟨cs, bk_below c1 hb, c2⟩, h.ne⟩
theorem MemS.cell {w : World} {mm fb nF : Nat} {M : Nat → Int} (h : MemS w mm fb nF M) {i : Nat} (hi : i < nF * 32) : w.cell? ⟨fb, i, none⟩ = some (.int .u32 (M i)) ∧ w.frozen? ⟨fb, i, none⟩ = false := by
  obtain ⟨cs, c1, c2⟩ := h.fr
  exact ⟨(bk_cell c1 i).trans (c2 i hi), bk_frozen c1 i⟩
def updM (M : Nat → Int) (i : Nat) (x : Int) : Nat → Int := fun j => if j = i then x else M j
theorem MemS.set {w : World} {mm fb nF : Nat} {M : Nat → Int} (h : MemS w mm fb nF M) {i : Nat} (hi : i < nF * 32) (x : Int) : MemS (w.setCell ⟨fb, i, none⟩ (.int .u32 x)) mm fb nF (updM M i x) := by
  obtain ⟨cs, c1, c2⟩ := h.fr
  refine ⟨bk_far h.hd h.ne _, ⟨_, bk_set c1 i _, fun j hj => ?_⟩, h.ne⟩
  unfold updM
  by_cases e : j = i
  · subst e
    have := (Array.getElem?_eq_some_iff.1 (c2 j hj)).1
    simp [this]
  · rw [Array.getElem?_setIfInBounds_ne (by omega), if_neg e]
    exact c2 j hj
theorem MemS.lts {w : World} {mm fb nF : Nat} {M : Nat → Int} (h : MemS w mm fb nF M) : mm < w.heap.size ∧ fb < w.heap.size := by
  obtain ⟨cs, c1, c2⟩ := h.fr
  exact ⟨bk_lt h.hd, bk_lt c1⟩
theorem mnew_bad (n : Int) (w : World) (h : n < 1 ∨ 1024 < n) :
    Calls Try.prog 11 #[.int .i64 n] w fun e w' => e = .returned (.tuple #[.pointer none, .int .i64 2]) ∧ w' = w := by
  have h' : n < 1 ∨ (¬ n < 1 ∧ 1024 < n) := by omega
  rcases h' with h1 | ⟨h1, h2⟩
  all_goals
    go_enter Try.func11, Try.ntmps11
    go_wp2
    go_ret2
    exact ⟨rfl, rfl⟩
theorem frame_info : (Try.prog.info? 112).map (fun i => (i.size, i.bytes)) = some (32, 128) := by kernel_rfl
theorem frame_zero : (Try.prog.info? 112).bind (·.zero) = some (.agg (Array.replicate 32 (.int .u32 0))) := by kernel_rfl
theorem mnew_ok (n : Nat) (w : World) (h1 : 1 ≤ n) (h2 : n ≤ 1024) :
    Calls Try.prog 11 #[.int .i64 n] w fun e w' => ∃ mm fb, e = .returned (.tuple #[.pointer (some ⟨mm, 0, none⟩), .int .i64 0]) ∧ MemS w' mm fb n (fun _ => 0) ∧ w.heap.size ≤ mm ∧ w.heap.size ≤ fb ∧ Below w.heap.size w w' := by
  have q1 : ¬ (n : Int) < 1 := by omega
  have q2 : ¬ (1024 : Int) < n := by omega
  obtain ⟨i0, hi, hs⟩ := Option.map_eq_some_iff.1 frame_info
  simp only [Prod.mk.injEq] at hs
  have hz := frame_zero
  rw [hi] at hz
  have hz' : i0.zero = some (.agg (Array.replicate 32 (.int .u32 0))) := hz
  clear hz
  go_enter Try.func11, Try.ntmps11
  go_wp2_with (refine wpList_make_full _ rfl _ _ 74 rfl w.heap.size 112 i0 (.agg (Array.replicate 32 (.int .u32 0))) 32 Try.underlying74 hi hz' hs.1 .i64 .i64 n n n (by rfl) (by rfl) rfl rfl (by rw [hs.2]; omega) (by simp [maxLen]; omega) (Nat.le_refl _) ?_)
  intro w1 ho hg
  obtain ⟨cur, hcur, hcs⟩ : ∃ cur, w1.heap[w.heap.size]? = some (.cells cur 112 (0, 0)) ∧ ∀ i, i < n * 32 → cur[i]? = some (.int .u32 0) := by
    obtain ⟨_, ho⟩ := ho
    rcases ho with ⟨h, _⟩ | ⟨g, cap, cur, hv, hb, hgg, hn, hm, hsz, ht⟩
    · cases h
    · simp only [Value.slice.injEq, Option.some.injEq, Addr.mk.injEq, and_true, true_and] at hv
      obtain ⟨rfl, rfl⟩ := hv
      refine ⟨cur, hgg, fun i hi => ?_⟩
      have h3 : (cur.toList.take (n * 32))[i]? = (madeCells (Value.agg (Array.replicate 32 (.int .u32 0))).cells (n * 32)).toList[i]? := by rw [ht]; rfl
      rw [List.getElem?_take_of_lt hi] at h3
      have h4 : (madeCells (Value.agg (Array.replicate 32 (.int .u32 0))).cells (n * 32)).toList[i]? = some (.int .u32 0) := by
        simp only [madeCells, Array.toList_map, List.getElem?_map]
        have hr : (Array.range (n * 32)).toList[i]? = some i := by simp [hi]
        rw [hr]
        have hlt : i % 32 < 32 := Nat.mod_lt _ (by decide)
        show some ((Array.replicate 32 (Value.int .u32 0))[i % 32]!) = _
        simp [hlt]
      rw [h4] at h3
      simpa using h3
  have HC := Lib.hid hcur
  have HB := Lib.hid (show Below w.heap.size w w1 from ⟨hg.os, hg.tape, hg.output, hg.size, fun k hk => hg.block k hk (by simp)⟩)
  have hl := bk_lt hcur
  clear ho hg hcur
  go_wp2
  go_ret2
  exact ⟨w1.heap.size, w.heap.size, rfl, ⟨bk_new _ _, ⟨cur, bk_alloc HC.out _, hcs⟩, by omega⟩, by omega, Nat.le_refl _, HB.out.alloc HB.out.size _⟩
theorem mframes_nil (w : World) : Calls Try.prog 31 #[.pointer none] w fun e w' => e = .returned (.int .i64 0) ∧ w' = w := by
  go_enter Try.func31, Try.ntmps31
  go_wp2
  go_ret
  exact ⟨rfl, rfl⟩
theorem mframes_any (mm fb nF : Nat) (M : Nat → Int) (w : World) (h : MemS w mm fb nF M) : Calls Try.prog 31 #[.pointer (some ⟨mm, 0, none⟩)] w fun e w' => e = .returned (.int .i64 nF) ∧ w' = w := by
  have c0 : w.cell? ⟨mm, 0, none⟩ = some (.slice (some ⟨fb, 0, none⟩) nF nF) := (bk_cell h.hd 0).trans rfl
  clear h
  go_enter Try.func31, Try.ntmps31
  go_wp2
  go_ret
  exact ⟨rfl, rfl⟩
set_option maxHeartbeats 1000000 in
theorem wr1_any (fb a p pw pp : Nat) (x : Int) (v : Value) (w : World) (hp : p < 32) (h1 : w.cell? ⟨pw, 0, none⟩ = some (.int .u32 x)) (h2 : w.cell? ⟨pp, 0, none⟩ = some (.int .i64 p)) (h3 : w.cell? ⟨fb, a * 32 + p, none⟩ = some v) (h4 : w.frozen? ⟨fb, a * 32 + p, none⟩ = false) :
    Calls Try.prog 35 #[.pointer (some ⟨fb, a * 32, none⟩), .pointer (some ⟨pw, 0, none⟩), .pointer (some ⟨pp, 0, none⟩)] w fun e w' => e = .returned (.tuple #[]) ∧ w' = (w.setCell ⟨fb, a * 32 + p, none⟩ (.int .u32 x)).drew := by
  have p0 : (0 : Int) ≤ p := by omega
  have p1 : (p : Int) < 32 := by omega
  go_enter Try.func35, Try.ntmps35
  go_wp2_with fail
  go_region
  all_goals
    go_wp2
    go_end0
    exact ⟨rfl, by first | rfl | simp⟩
theorem MemS.keptB {w w' : World} {mm fb nF : Nat} {M : Nat → Int} (h : MemS w mm fb nF M) (hb : Below w.heap.size w w') : MemS w' mm fb nF M := h.below hb
set_option maxHeartbeats 1000000 in
theorem with_write (mm fb nF a p pw pp : Nat) (M : Nat → Int) (x : Int) (w : World) (h : MemS w mm fb nF M) (ha : a < nF) (hp : p < 32) (h1 : w.cell? ⟨pw, 0, none⟩ = some (.int .u32 x)) (h2 : w.cell? ⟨pp, 0, none⟩ = some (.int .i64 p)) :
    Calls Try.prog 34 #[.pointer (some ⟨mm, 0, none⟩), .int .i64 a, .int .i64 p, .func (.func 35) #[] #[.pointer (some ⟨pw, 0, none⟩), .pointer (some ⟨pp, 0, none⟩)]] w fun e w' => e = .returned (.int .i64 0) ∧ MemS w' mm fb nF (updM M (a * 32 + p) x) ∧ Kept fb w w' := by
  have hnil := fun (w : World) => Lib.run_eql_slice_nil (P := Try.prog) w 74 112 (some ⟨fb, 0, none⟩) nF nF 0 0 Try.underlying74
  have c0 : w.cell? ⟨mm, 0, none⟩ = some (.slice (some ⟨fb, 0, none⟩) nF nF) := (bk_cell h.hd 0).trans rfl
  have hi : a * 32 + p < nF * 32 := by omega
  obtain ⟨c1, c2⟩ := h.cell hi
  have HM := Lib.hid h
  have HW := Lib.hid (wr1_any fb a p pw pp x _ w hp h1 h2 c1 c2)
  have a0 : ¬ (a : Int) < 0 := by omega
  have a1 : ¬ (nF : Int) ≤ a := by omega
  have a2 : (0 : Int) ≤ a := by omega
  have a3 : (a : Int) < nF := by omega
  have p0 : ¬ (p : Int) < 0 := by omega
  have p1 : ¬ (32 : Int) ≤ p := by omega
  clear h h1 h2 c1 c2
  go_enter Try.func34, Try.ntmps34
  go_wp2_with fail
  refine HW.out.mono ?_; rintro e w1 ⟨rfl, rfl⟩
  go_wp2
  go_ret
  exact ⟨rfl, (HM.out.set hi x).below (bdrew (Below.refl _ _)), ((Kept.refl fb w).setCell _ _).drew⟩
theorem mwrite_any (mm fb nF a p : Nat) (M : Nat → Int) (x : Int) (w : World) (h : MemS w mm fb nF M) (ha : a < nF) (hp : p < 32) :
    Calls Try.prog 13 #[.pointer (some ⟨mm, 0, none⟩), .int .i64 a, .int .i64 p, .int .u32 x] w fun e w' => e = .returned (.int .i64 0) ∧ MemS w' mm fb nF (updM M (a * 32 + p) x) ∧ Kept fb w w' := by
  have hmf : ∀ (fn : Fn) (first cap : Array Value) (w : World), (Instr.makeFunc fn first cap).run Try.prog w = .ok (.func fn first cap) w := fun _ _ _ _ => rfl
  have HM := Lib.hid h
  clear h
  go_enter Try.func13, Try.ntmps13
  go_wp2_with fail
  have hb : Below w.heap.size w ((w.alloc (.cells #[.int .i64 p] 3)).alloc (.cells #[.int .u32 x] 40)) := by go_grown
  have h1 : ((w.alloc (.cells #[.int .i64 p] 3)).alloc (.cells #[.int .u32 x] 40)).cell? ⟨w.heap.size + 1, 0, none⟩ = some (.int .u32 x) := by
    have := bk_new (w.alloc (.cells #[.int .i64 p] 3)) (.cells #[.int .u32 x] 40)
    rw [World.size_alloc] at this
    exact (bk_cell this 0).trans rfl
  have h2 : ((w.alloc (.cells #[.int .i64 p] 3)).alloc (.cells #[.int .u32 x] 40)).cell? ⟨w.heap.size, 0, none⟩ = some (.int .i64 p) := (bk_cell (bk_alloc (bk_new w _) _) 0).trans rfl
  refine (with_write mm fb nF a p (w.heap.size + 1) w.heap.size M x _ (HM.out.below hb) ha hp h1 h2).mono ?_; rintro e w1 ⟨rfl, h3, h4⟩
  have H3 := Lib.hid h3
  have H4 := Lib.hid ((Kept.of_below hb).trans h4)
  clear h1 h2 h3 h4 hb
  go_wp2
  go_ret
  exact ⟨rfl, H3.out, H4.out⟩
set_option maxHeartbeats 1000000 in
theorem rd1_any (fb a p pw pp : Nat) (x y : Int) (w : World) (hp : p < 32) (h1 : w.cell? ⟨pw, 0, none⟩ = some (.int .u32 x)) (hf : w.frozen? ⟨pw, 0, none⟩ = false) (h2 : w.cell? ⟨pp, 0, none⟩ = some (.int .i64 p)) (h3 : w.cell? ⟨fb, a * 32 + p, none⟩ = some (.int .u32 y)) :
    Calls Try.prog 67 #[.pointer (some ⟨fb, a * 32, none⟩), .pointer (some ⟨pp, 0, none⟩), .pointer (some ⟨pw, 0, none⟩)] w fun e w' => e = .returned (.tuple #[]) ∧ w' = (w.setCell ⟨pw, 0, none⟩ (.int .u32 y)).drew := by
  have p0 : (0 : Int) ≤ p := by omega
  have p1 : (p : Int) < 32 := by omega
  go_enter Try.func67, Try.ntmps67
  go_wp2_with fail
  go_region
  all_goals
    go_wp2
    go_end0
    exact ⟨rfl, by first | rfl | simp⟩
set_option maxHeartbeats 1000000 in
theorem with_read (mm fb nF a p pw pp : Nat) (M : Nat → Int) (x : Int) (w : World) (h : MemS w mm fb nF M) (ha : a < nF) (hp : p < 32) (h1 : w.cell? ⟨pw, 0, none⟩ = some (.int .u32 x)) (hf : w.frozen? ⟨pw, 0, none⟩ = false) (h2 : w.cell? ⟨pp, 0, none⟩ = some (.int .i64 p)) :
    Calls Try.prog 34 #[.pointer (some ⟨mm, 0, none⟩), .int .i64 a, .int .i64 p, .func (.func 67) #[] #[.pointer (some ⟨pp, 0, none⟩), .pointer (some ⟨pw, 0, none⟩)]] w fun e w' => e = .returned (.int .i64 0) ∧ w' = (w.setCell ⟨pw, 0, none⟩ (.int .u32 (M (a * 32 + p)))).drew := by
  have hnil := fun (w : World) => Lib.run_eql_slice_nil (P := Try.prog) w 74 112 (some ⟨fb, 0, none⟩) nF nF 0 0 Try.underlying74
  have c0 : w.cell? ⟨mm, 0, none⟩ = some (.slice (some ⟨fb, 0, none⟩) nF nF) := (bk_cell h.hd 0).trans rfl
  have hi : a * 32 + p < nF * 32 := by omega
  obtain ⟨c1, c2⟩ := h.cell hi
  have HW := Lib.hid (rd1_any fb a p pw pp x _ w hp h1 hf h2 c1)
  have a0 : ¬ (a : Int) < 0 := by omega
  have a1 : ¬ (nF : Int) ≤ a := by omega
  have a2 : (0 : Int) ≤ a := by omega
  have a3 : (a : Int) < nF := by omega
  have p0 : ¬ (p : Int) < 0 := by omega
  have p1 : ¬ (32 : Int) ≤ p := by omega
  clear h h1 h2 c1 c2 hf
  go_enter Try.func34, Try.ntmps34
  go_wp2_with fail
  refine HW.out.mono ?_; rintro e w1 ⟨rfl, rfl⟩
  go_wp2
  go_ret
  exact ⟨rfl, rfl⟩
theorem mread_any (mm fb nF a p : Nat) (M : Nat → Int) (w : World) (h : MemS w mm fb nF M) (ha : a < nF) (hp : p < 32) :
    Calls Try.prog 57 #[.pointer (some ⟨mm, 0, none⟩), .int .i64 a, .int .i64 p] w fun e w' => e = .returned (.tuple #[.int .u32 (M (a * 32 + p)), .int .i64 0]) ∧ Below w.heap.size w w' := by
  have hmf : ∀ (fn : Fn) (first cap : Array Value) (w : World), (Instr.makeFunc fn first cap).run Try.prog w = .ok (.func fn first cap) w := fun _ _ _ _ => rfl
  have HM := Lib.hid h
  clear h
  go_enter Try.func57, Try.ntmps57
  go_wp2_with fail
  have hb : Below w.heap.size w ((w.alloc (.cells #[.int .i64 p] 3)).alloc (.cells #[.int .u32 0] 40)) := by go_grown
  have hn := bk_new (w.alloc (.cells #[.int .i64 p] 3)) (.cells #[.int .u32 0] 40)
  rw [World.size_alloc] at hn
  have h2 : ((w.alloc (.cells #[.int .i64 p] 3)).alloc (.cells #[.int .u32 0] 40)).cell? ⟨w.heap.size, 0, none⟩ = some (.int .i64 p) := (bk_cell (bk_alloc (bk_new w _) _) 0).trans rfl
  refine (with_read mm fb nF a p (w.heap.size + 1) w.heap.size M 0 _ (HM.out.below hb) ha hp ((bk_cell hn 0).trans rfl) (bk_frozen hn 0) h2).mono ?_; rintro e w1 ⟨rfl, hw⟩
  have hs : w1.heap[w.heap.size + 1]? = some (.cells #[.int .u32 (M (a * 32 + p))] 40 (0, 0)) := by rw [hw]; exact bk_set hn 0 _
  have hB : Below w.heap.size w w1 := by rw [hw]; exact bdrew (hb.setCell (p := ⟨w.heap.size + 1, 0, none⟩) (by show w.heap.size ≤ w.heap.size + 1; omega) _)
  have c0 : w1.cell? ⟨w.heap.size + 1, 0, none⟩ = some (.int .u32 (M (a * 32 + p))) := (bk_cell hs 0).trans rfl
  have f0 := bk_frozen hs 0
  have HB := Lib.hid hB
  have HS := Lib.hid hs
  clear hn h2 hb hw hs hB
  go_wp2
  have c1 : (w1.setCell ⟨w.heap.size + 1, 0, none⟩ (.int .u32 (M (a * 32 + p)))).cell? ⟨w.heap.size + 1, 0, none⟩ = some (.int .u32 (M (a * 32 + p))) := (bk_cell (bk_set HS.out 0 _) 0).trans rfl
  have hbb := HB.out.setCell (p := ⟨w.heap.size + 1, 0, none⟩) (show w.heap.size ≤ w.heap.size + 1 by omega) (.int .u32 (M (a * 32 + p)))
  generalize w1.setCell ⟨w.heap.size + 1, 0, none⟩ (.int .u32 (M (a * 32 + p))) = w2 at *
  refine bodyPost_ret (v := .tuple #[.int .u32 (M (a * 32 + p)), .int .i64 0]) (by simp [results, Try.results57, asAddr, go_sem, c1]) rfl ?_
  exact ⟨rfl, hbb⟩
end Go.Proofs.Ytofkgceenppdbaa
