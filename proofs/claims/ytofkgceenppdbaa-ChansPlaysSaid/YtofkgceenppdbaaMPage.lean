/- The machine's memory: Page. -/
import Derived.Test.YtofkgceenppdbaaMem
import Derived.Test.YtofkgceenppdbaaAppK
import Derived.Test.YtofkgceenppdbaaRing4
namespace Go.Proofs.Ytofkgceenppdbaa
open Go.RowKit
set_option linter.unusedVariables false
set_option linter.unusedSimpArgs false
/-- a page's words -/
def pg (M : Nat → Int) (i : Nat) : List Int := (List.range 32).map fun k => M (i * 32 + k)
theorem pg_length (M : Nat → Int) (i : Nat) : (pg M i).length = 32 := by simp [pg]
theorem pg_get {M : Nat → Int} {i k : Nat} (h : k < 32) : (pg M i)[k]? = some (M (i * 32 + k)) := by
  unfold pg
  rw [List.getElem?_map, List.getElem?_range h]
  rfl
theorem pg_getD {M : Nat → Int} {i k : Nat} (h : k < 32) : (pg M i).getD k 0 = M (i * 32 + k) := by
  rw [List.getD_eq_getElem?_getD, pg_get h]
  rfl
/-- 'l = append(l, row...)' of none, in a region that draws -/
theorem step_appN {P : Program} {ops : Array Oper} {o : Oper} {a : Act} {w : World} {K : Act → World → Prop} {Q : Exit → Act → World → Prop} {E : Prop} (hgd : o.guard = none) (s x : Operand) (t : TypeId)
    (ho : o.op = .call { callee := .builtin .append, args := #[s, x], argTypes := #[t, t] }) {e bytes : Nat} {q : IntKind} (ie : IntElem P t e q bytes)
    (hs : a.eval s = .slice none 0 0) (b off c : Nat) (xs : List Int) (hx : a.eval x = .slice (some ⟨b, off, none⟩) xs.length c) (hl : 0 < xs.length) (hl2 : xs.length ≤ 1000)
    (hsrc : ∀ j u, xs[j]? = some u → w.cell? ⟨b, off + j, none⟩ = some (.int q u)) (hwf : ∀ z ∈ xs, (Lit.int q z).wf = true)
    (h : ∀ g cap w', w'.ownsInts w.heap.size e q (.slice (some ⟨g, 0, none⟩) xs.length cap) xs → Below w.heap.size w w' → K (a.put o.dst (.slice (some ⟨g, 0, none⟩) xs.length cap)) w') :
    if Region.wanted o (yielded ops a.tmps) = true then Oper.wp P o a w K Q else E := by
  obtain ⟨i0, hi, hz0, hz1, hz2⟩ := info_parts ie.hi
  have hb8 := ie.hb
  refine step_append_lies w hgd s x t ho w.heap.size e i0 (.int q 0) 1 bytes ie.ht hi hz0 hz1 hz2 rfl (by decide) (.slice none 0 0) 0 [] hs ⟨rfl, .inl ⟨rfl, rfl⟩⟩ ⟨b, off, none⟩ xs.length c (xs.map (Value.int q)) hx (by simp) ?_ ?_ hl (by simp [maxLen]; omega) ?_ (Nat.le_refl _) _ rfl ?_
  · intro j u hj
    rw [List.getElem?_map] at hj
    obtain ⟨z, hz, rfl⟩ := Option.map_eq_some_iff.1 hj
    have hadd : (⟨b, off, none⟩ : Addr).add j = ⟨b, off + j, none⟩ := addr_add b off j
    rw [hadd]
    exact hsrc j z hz
  · intro u hu
    obtain ⟨z, _, rfl⟩ := List.mem_map.1 hu
    rfl
  · have : (0 + xs.length) * bytes ≤ (0 + xs.length) * 8 := Nat.mul_le_mul_left _ hb8
    omega
  · intro g cap w' h2 h3 _ _
    rw [Nat.zero_add, List.nil_append] at h2
    have h4 := h g cap w' ⟨h2, hwf⟩ ⟨h3.os, h3.tape, h3.output, h3.size, fun j hj => h3.block j hj (fun e => by cases e)⟩
    rw [Nat.zero_add]
    exact h4
set_option maxHeartbeats 1000000 in
theorem pg1_any (fb a pl : Nat) (M : Nat → Int) (w : World) (hp : w.heap[pl]? = some (.cells #[.slice none 0 0] 41 (0, 0))) (hc : ∀ k, k < 32 → w.cell? ⟨fb, a * 32 + k, none⟩ = some (.int .u32 (M (a * 32 + k)))) (hM : ∀ k, k < 32 → 0 ≤ M (a * 32 + k) ∧ M (a * 32 + k) < 4294967296) :
    Calls Try.prog 59 #[.pointer (some ⟨fb, a * 32, none⟩), .pointer (some ⟨pl, 0, none⟩)] w fun e w' => ∃ b c, e = .returned (.tuple #[]) ∧ w'.heap[pl]? = some (.cells #[.slice (some ⟨b, 0, none⟩) 32 c] 41 (0, 0)) ∧ Sl w' .u32 (some ⟨b, 0, none⟩) 32 (fun k => (pg M a).getD k 0) ∧ w.heap.size ≤ b ∧ Kept pl w w' := by
  have c0 : w.cell? ⟨pl, 0, none⟩ = some (.slice none 0 0) := (bk_cell hp 0).trans rfl
  have f0 := bk_frozen hp 0
  have hlt := bk_lt hp
  have HP := Lib.hid hp
  have HC := Lib.hid hc
  have HMM := Lib.hid hM
  clear hp hc hM
  go_enter Try.func59, Try.ntmps59
  go_wp2_with fail
  go_region_law (first | (refine step_appN rfl _ _ _ rfl ieW rfl fb (a * 32) 32 (pg M a) rfl (by rw [pg_length]; decide) (by rw [pg_length]; decide) (fun j u hj => by have hj' := (List.getElem?_eq_some_iff.1 hj).1; rw [pg_length] at hj'; rw [pg_get hj'] at hj; obtain rfl := Option.some.inj hj; exact HC.out j hj') (fun z hz => by obtain ⟨k, hk, rfl⟩ := List.mem_map.1 hz; have := HMM.out k (List.mem_range.1 hk); exact wf_u32 this.1 this.2) ?_; intro g cap w5 ho5 hb5; have hb6 : Below w.heap.size w w5 := ⟨hb5.os, hb5.tape, hb5.output, hb5.size, hb5.block⟩; have hx6 := bk_below HP.out hb6; have F1 : w5.cell? ⟨pl, 0, none⟩ = some (.slice none 0 0) := (bk_cell hx6 0).trans rfl; have F2 := bk_frozen hx6 0))
  all_goals
    go_wp2
    go_end0
    have hgb : w.heap.size ≤ g := by
      obtain ⟨⟨_, h3⟩, _⟩ := ho5
      rcases h3 with ⟨e, _⟩ | ⟨g', cap', cur, e, hg', _⟩
      · cases e
      · simp only [Value.slice.injEq, Option.some.injEq, Addr.mk.injEq, and_true, true_and] at e
        obtain ⟨rfl, _⟩ := e
        exact hg'
    have hk : Kept pl w (w5.setCell ⟨pl, 0, none⟩ (.slice (some ⟨g, 0, none⟩) 32 cap)) := (Kept.of_below hb6).setCell 0 _
    refine ⟨g, cap, rfl, bk_set hx6 0 _, ?_, hgb, hk⟩
    obtain ⟨a1, c1, e, hs, _⟩ := own_sl ho5
    simp only [Value.slice.injEq, true_and] at e
    obtain ⟨rfl, _⟩ := e
    rw [pg_length] at hs
    rcases hs with h0 | ⟨b2, o2, e2, h2⟩
    · omega
    · simp only [Option.some.injEq, Addr.mk.injEq, and_true] at e2
      obtain ⟨rfl, rfl⟩ := e2
      exact .inr ⟨_, _, rfl, fun k hk => ((Kept.refl pl w5).setCell 0 _).cell (h2 k hk) (by omega)⟩
set_option maxHeartbeats 1000000 in
theorem with_page (mm fb nF a pl : Nat) (M : Nat → Int) (w : World) (h : MemS w mm fb nF M) (hM : ∀ i, i < nF * 32 → 0 ≤ M i ∧ M i < 4294967296) (ha : a < nF) (hp : w.heap[pl]? = some (.cells #[.slice none 0 0] 41 (0, 0))) :
    Calls Try.prog 34 #[.pointer (some ⟨mm, 0, none⟩), .int .i64 a, .int .i64 0, .func (.func 59) #[] #[.pointer (some ⟨pl, 0, none⟩)]] w fun e w' => ∃ b c, e = .returned (.int .i64 0) ∧ w'.heap[pl]? = some (.cells #[.slice (some ⟨b, 0, none⟩) 32 c] 41 (0, 0)) ∧ Sl w' .u32 (some ⟨b, 0, none⟩) 32 (fun k => (pg M a).getD k 0) ∧ w.heap.size ≤ b ∧ Kept pl w w' := by
  have hnil := fun (w : World) => Lib.run_eql_slice_nil (P := Try.prog) w 74 112 (some ⟨fb, 0, none⟩) nF nF 0 0 Try.underlying74
  have c0 : w.cell? ⟨mm, 0, none⟩ = some (.slice (some ⟨fb, 0, none⟩) nF nF) := (bk_cell h.hd 0).trans rfl
  have HW := Lib.hid (pg1_any fb a pl M w hp (fun k hk => (h.cell (by omega)).1) (fun k hk => hM _ (by omega)))
  have a0 : ¬ (a : Int) < 0 := by omega
  have a1 : ¬ (nF : Int) ≤ a := by omega
  have a2 : (0 : Int) ≤ a := by omega
  have a3 : (a : Int) < nF := by omega
  clear h hM hp
  go_enter Try.func34, Try.ntmps34
  go_wp2_with fail
  refine HW.out.mono ?_; rintro e w1 ⟨b, c, rfl, h1, h2, h3, h4⟩
  have H1 := Lib.hid h1
  have H2 := Lib.hid h2
  have H4 := Lib.hid h4
  clear h1 h2 h4
  go_wp2
  go_ret
  exact ⟨b, c, rfl, H1.out, H2.out, h3, H4.out⟩
set_option maxHeartbeats 1000000 in
theorem mpage_any (mm fb nF a : Nat) (M : Nat → Int) (w : World) (h : MemS w mm fb nF M) (hM : ∀ i, i < nF * 32 → 0 ≤ M i ∧ M i < 4294967296) (ha : a < nF) :
    Calls Try.prog 41 #[.pointer (some ⟨mm, 0, none⟩), .int .i64 a] w fun e w' => ∃ b c, e = .returned (.tuple #[.slice (some ⟨b, 0, none⟩) 32 c, .int .i64 0]) ∧ Sl w' .u32 (some ⟨b, 0, none⟩) 32 (fun k => (pg M a).getD k 0) ∧ Below w.heap.size w w' := by
  have hmf : ∀ (fn : Fn) (first cap : Array Value) (w : World), (Instr.makeFunc fn first cap).run Try.prog w = .ok (.func fn first cap) w := fun _ _ _ _ => rfl
  have HM := Lib.hid h
  have HMM := Lib.hid hM
  clear h hM
  go_enter Try.func41, Try.ntmps41
  go_wp2_with fail
  refine (with_page mm fb nF a w.heap.size M _ (HM.out.below (by go_grown)) HMM.out ha (bk_new w _)).mono ?_; rintro e w1 ⟨b, c, rfl, h1, h2, h3, h4⟩
  have c0 : w1.cell? ⟨w.heap.size, 0, none⟩ = some (.slice (some ⟨b, 0, none⟩) 32 c) := (bk_cell h1 0).trans rfl
  have f0 := bk_frozen h1 0
  have H1 := Lib.hid h1
  have H2 := Lib.hid h2
  rw [World.size_alloc] at h3
  have HB := Lib.hid (show Below w.heap.size w w1 from h4.below ((Below.refl _ _).alloc (Nat.le_refl _) _) (Nat.le_refl _) (by rw [World.size_alloc]; omega))
  clear h1 h2 h4
  go_wp2
  have c1 : (w1.setCell ⟨w.heap.size, 0, none⟩ (.slice (some ⟨b, 0, none⟩) 32 c)).cell? ⟨w.heap.size, 0, none⟩ = some (.slice (some ⟨b, 0, none⟩) 32 c) := (bk_cell (bk_set H1.out 0 _) 0).trans rfl
  have hbb := HB.out.setCell (p := ⟨w.heap.size, 0, none⟩) (Nat.le_refl _) (.slice (some ⟨b, 0, none⟩) 32 c)
  have hsl : Sl (w1.setCell ⟨w.heap.size, 0, none⟩ (.slice (some ⟨b, 0, none⟩) 32 c)) .u32 (some ⟨b, 0, none⟩) 32 (fun k => (pg M a).getD k 0) := by
    rcases H2.out with h0 | ⟨b2, o2, e2, h2⟩
    · omega
    · simp only [Option.some.injEq, Addr.mk.injEq, and_true] at e2
      obtain ⟨rfl, rfl⟩ := e2
      exact .inr ⟨_, _, rfl, fun k hk => ((Kept.refl w.heap.size w1).setCell 0 _).cell (h2 k hk) (by omega)⟩
  generalize w1.setCell ⟨w.heap.size, 0, none⟩ (.slice (some ⟨b, 0, none⟩) 32 c) = w2 at *
  refine bodyPost_ret (v := .tuple #[.slice (some ⟨b, 0, none⟩) 32 c, .int .i64 0]) (by simp [results, Try.results41, asAddr, go_sem, c1]) rfl ?_
  exact ⟨b, c, rfl, hsl, hbb⟩
end Go.Proofs.Ytofkgceenppdbaa
