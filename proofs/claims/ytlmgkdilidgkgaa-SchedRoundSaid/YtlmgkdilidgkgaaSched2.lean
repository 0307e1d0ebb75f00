/- A schedule's Tick. -/
import Derived.Test.YtlmgkdilidgkgaaSched1
namespace Go.Proofs.Ytlmgkdilidgkgaa
open Go.RowKit
set_option linter.unusedVariables false
set_option linter.unusedSimpArgs false
attribute [local go_sem] Oper.semAt_some
theorem round_any' (g : Nat) (w : World) :
    Calls Try.prog 27 #[.pointer (some ⟨g, 0, none⟩)] w fun e w' => e = .returned (.func (.func 32) #[] #[.pointer (some ⟨w.heap.size, 0, none⟩)]) ∧ w' = w.alloc (.cells #[.pointer (some ⟨g, 0, none⟩)] 29) := by
  have hmf : ∀ (fn : Fn) (first cap : Array Value) (w : World), (Instr.makeFunc fn first cap).run Try.prog w = .ok (.func fn first cap) w := fun _ _ _ _ => rfl
  go_enter Try.func27, Try.ntmps27
  go_wp2
  go_ret
  exact ⟨rfl, rfl⟩
set_option maxRecDepth 20000 in
set_option maxHeartbeats 4000000 in
theorem round_iter (Bs g gl n cap : Nat) (X Y : Nat → Int) (a : Nat) (b c : Int) (w : World) (h : IsS w g gl n cap X Y a b c) (hB : w.heap[Bs]? = some (.cells #[.pointer (some ⟨g, 0, none⟩)] 29 (0, 0))) (ha : a < n) (hn : n ≤ 1000) :
    Iter1 Fence.wide Try.prog 32 #[.pointer (some ⟨Bs, 0, none⟩)] #[.int .i64 (((a : Int) + 1) % n)] w := by
  intro m l J Jx W hW hl1 hl2 hJ hJx hY h0
  have hbl := bk_lt hB
  have hgl := h.lt
  have hW2 := hW
  obtain ⟨c0, c1, c2, c3⟩ := (h.below hW).cells
  have d0 : W.cell? ⟨Bs, 0, none⟩ = some (.pointer (some ⟨g, 0, none⟩)) := (bk_cell (bk_below hB hW) 0).trans rfl
  have s1 : IntKind.i64.wrap ((a : Int) + 1) = (a : Int) + 1 := IntWalk.i64_in _ (by omega)
  have s2 : IntKind.i64.wrap ((a : Int) + 1 + 0) = (a : Int) + 1 := by rw [Int.add_zero]; exact s1
  have hz : ((n : Int) == 0) = false := beq_eq_false_iff_ne.2 (by omega)
  have hn0 : (0 : Int) < (n : Int) := by omega
  have hn1 : 0 < n := by omega
  have hn2 : decide (0 < n) = true := by simp; omega
  have hq0 : (0 : Int) ≤ (a : Int) + 1 := by omega
  obtain ⟨fn, tmps, assign, body, hy, hR⟩ := hY W.drew (hJ _ _ (bdrew (Below.refl _ _)) h0)
  clear hW hJ hJx hY h0 h hB hW2
  refine callsIn_of_wp Try.func32 rfl trivial ?_ rfl
  simp only [Try.ntmps32, List.size_toArray, List.length_cons, List.length_nil, Nat.reduceAdd, Nat.reduceSub, Array.replicate_succ, Array.replicate_zero, List.push_toArray, List.append_toArray, List.nil_append, List.cons_append]
  gi_wp2_with fail
  gi_loopw [9] (fun iv wr => iv = .int .i64 0 ∧ wr = W) (fun iv _ => 1)
  case atStart => exact ⟨rfl, rfl⟩
  case round =>
    obtain ⟨rfl, rfl⟩ := hrel
    gi_wp2_with fail
    gi_region_with ((refine ⟨(fun h => by cases h), (round_any (F := Fence.wide) rfl hR).mono ?_⟩; rintro e W' ⟨rfl, hx⟩))
    all_goals
      gi_wp2_with fail
      refine bodyPost_ret (results_none rfl _ _ _) rfl ?_
      exact ⟨⟨_, rfl⟩, hx⟩
end Go.Proofs.Ytlmgkdilidgkgaa
