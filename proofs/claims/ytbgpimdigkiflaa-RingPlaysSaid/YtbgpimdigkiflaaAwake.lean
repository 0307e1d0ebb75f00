/- Helper text of this seat (Awake): contracts of functions of the given program and of its references, each told by its theorem. -/
import Derived.Test.YtbgpimdigkiflaaRing5
import Derived.Test.YtbgpimdigkiflaaKp
namespace Go.Proofs.Ytbgpimdigkiflaa
open Go.RowKit
set_option linter.unusedVariables false
set_option linter.unusedSimpArgs false
theorem one_get {x : Int} {w : World} {b : Nat} (h : w.cell? ⟨b, 0, none⟩ = some (.int .u32 x)) : ∀ i, i < [x].length → w.cell? ⟨b, 0 + i, none⟩ = some (.int .u32 ([x].getD i 0)) := by
  intro i hi
  match i, hi with
  | 0, _ => exact h
theorem one_word {x : Int} (h0 : 0 ≤ x) (h1 : x < 4294967296) : ∀ i, i < [x].length → 0 ≤ [x].getD i 0 ∧ [x].getD i 0 < 4294967296 := by
  intro i hi
  match i, hi with
  | 0, _ => exact ⟨h0, h1⟩
theorem zero_kept (w : World) : (zeroValue 37).run Try.prog w = .ok (.agg (kc (fun _ => 0) false)) w := by kernel_rfl
set_option maxHeartbeats 1000000 in
theorem awake_any (w : World) :
    Calls Try.prog 8 #[] w fun e w' => e = .returned (.bool true) ∧ Below w.heap.size w w' := by
  have hmf : ∀ (fn : Fn) (first cap : Array Value) (w : World), (Instr.makeFunc fn first cap).run Try.prog w = .ok (.func fn first cap) w := fun _ _ _ _ => rfl
  have hz := zero_kept
  go_enter Try.func8, Try.ntmps8
  go_wp2_with fail
  refine (new_rs 2 3 _ (by omega) (by omega) (by omega) (by omega)).mono ?_
  rintro e w1 ⟨R, rfl, hr1, hR1, hb1⟩
  have HR1 := Lib.hid hr1
  have HB1 := Lib.hid hb1
  clear hr1 hb1
  go_wp2_with fail
  have hR1l := bk_lt HR1.out
  have hne : w1.heap.size ≠ R := by omega
  have kp := keeps R w1.heap.size hne
  refine calls_abs (fun V => KS w1.heap.size (fun _ => 0) V ∧ IsRing V R 2 3 0 0 ∧ Below w.heap.size w V ∧ V.cell? ⟨w1.heap.size + 1, 0, none⟩ = some (.int .u32 7) ∧ V.heap.size = w1.heap.size + 1 + 1) ⟨⟨bk_alloc (bk_new w1 _) _, fun i => ⟨by simp, by simp⟩⟩, (HR1.out.alloc _).alloc _, (HB1.out.alloc HB1.out.size _).alloc (by have := HB1.out.size; simp; omega) _, ?_, by simp⟩ ?_
  · exact (bk_cell (by have := bk_new (w1.alloc (.cells (kc (fun _ => 0) false) 37)) (.cells #[.int .u32 7] 34); rwa [World.size_alloc] at this) 0).trans rfl
  rintro V ⟨v1, v2, v3, v4, v5⟩
  refine (send_ok kp 2 3 0 0 1 1 (w1.heap.size + 1) 0 _ (fun i => [7].getD i 0) V (by omega) (by omega) (by omega) (by omega) (by omega) (by omega) (by omega) (by omega) (by omega) v2 v1 (by omega) (by omega) (one_get v4) (one_word (by omega) (by omega))).mono ?_
  rintro e w2 ⟨rfl, r2, s2, k2⟩
  have hb2 : Below w.heap.size w w2 := k2.below v3 hR1 HB1.out.size v3.size
  have hz2 := k2.size
  clear v1 v2 v3 v4 k2
  go_wp2_with fail
  refine calls_abs (fun V => KS w1.heap.size (lay (fun _ => 0) (plc 2 3 0 0) (fun i => [7].getD i 0) 1 1) V ∧ IsRing V R 2 3 0 1 ∧ Below w.heap.size w V ∧ (V.cell? ⟨w2.heap.size, 0, none⟩ = some (.int .u32 1) ∧ V.cell? ⟨w2.heap.size, 1, none⟩ = some (.int .u32 2) ∧ V.cell? ⟨w2.heap.size, 2, none⟩ = some (.int .u32 3)) ∧ V.heap.size = w2.heap.size + 1) ⟨kp.keep s2 (.of_below (by go_grown)), r2.alloc _, hb2.alloc hb2.size _, ⟨(bk_cell (bk_new w2 _) 0).trans rfl, (bk_cell (bk_new w2 _) 1).trans rfl, (bk_cell (bk_new w2 _) 2).trans rfl⟩, by simp⟩ ?_
  rintro V' ⟨v1, v2, v3, ⟨c0, c1, c2⟩, v6⟩
  refine (send_ok kp 2 3 0 1 3 3 w2.heap.size 0 _ (fun i => [1, 2, 3].getD i 0) V' (by omega) (by omega) (by omega) (by omega) (by omega) (by omega) (by omega) (by omega) (by omega) v2 v1 (by omega) (by omega) (fun i hi => by
    match i, hi with
    | 0, _ => exact c0
    | 1, _ => exact c1
    | 2, _ => exact c2) (fun i hi => by
    match i, hi with
    | 0, _ => decide
    | 1, _ => decide
    | 2, _ => decide)).mono ?_
  rintro e w3 ⟨rfl, r3, s3, k3⟩
  have hb3 : Below w.heap.size w w3 := k3.below v3 hR1 HB1.out.size v3.size
  have hz3 := k3.size
  clear v1 v2 v3 c0 c1 c2 k3 s2 r2 hb2
  have hf0 : lay (lay (fun _ => 0) (plc 2 3 0 0) (fun i => [7].getD i 0) 1 1) (plc 2 3 0 1) (fun i => [1, 2, 3].getD i 0) 3 3 0 = 1 := by decide
  have hf4 : lay (lay (fun _ => 0) (plc 2 3 0 0) (fun i => [7].getD i 0) 1 1) (plc 2 3 0 1) (fun i => [1, 2, 3].getD i 0) 3 3 4 = 3 := by decide
  have hf7 : lay (lay (fun _ => 0) (plc 2 3 0 0) (fun i => [7].getD i 0) 1 1) (plc 2 3 0 1) (fun i => [1, 2, 3].getD i 0) 3 3 7 = 3 := by decide
  have hm : msg (lay (lay (fun _ => 0) (plc 2 3 0 0) (fun i => [7].getD i 0) 1 1) (plc 2 3 0 1) (fun i => [1, 2, 3].getD i 0) 3 3) (plc 2 3 0 0) (nx (lay (lay (fun _ => 0) (plc 2 3 0 0) (fun i => [7].getD i 0) 1 1) (plc 2 3 0 1) (fun i => [1, 2, 3].getD i 0) 3 3) (plc 2 3 0 0) 3) = [7] := by decide
  generalize lay (lay (fun _ => 0) (plc 2 3 0 0) (fun i => [7].getD i 0) 1 1) (plc 2 3 0 1) (fun i => [1, 2, 3].getD i 0) 3 3 = f at *
  have HS3 := Lib.hid s3
  have HF0 := Lib.hid hf0
  have HF4 := Lib.hid hf4
  have HF7 := Lib.hid hf7
  have HM := Lib.hid hm
  clear s3 hf0 hf4 hf7 hm
  go_wp2_with fail
  refine (send_full (some ⟨w3.heap.size, 0, none⟩) 1 1 _ _ _ 2 3 0 _ (by exact r3.alloc _) (by omega) (by omega) (by omega)).mono ?_
  rintro e w4 ⟨rfl, hb4⟩
  have hb34 : Below w3.heap.size w3 w4 := bstep (by go_grown) hb4
  have HR4 := Lib.hid (r3.below hb34)
  have HS4 := Lib.hid (kp.keep HS3.out (.of_below hb34))
  have HB4 := Lib.hid (bstep hb3 hb34)
  have hz4 := hb34.size
  clear hb4 hb34 r3 hb3
  go_wp2_with fail
  refine (recv_some kp 2 3 0 2 f _ (by omega) (by omega) (by omega) (by omega) (by omega) (by omega) (by omega) (by omega) (by omega) (by exact HR4.out) HS4.out).mono ?_
  rintro e w5 ⟨v, rfl, ho, hr5, hk5⟩
  rw [HM.out] at ho
  have hs5 := kp.keep HS4.out hk5
  have HB5 := Lib.hid (hk5.below HB4.out hR1 HB4.out.size)
  obtain ⟨p, cp, rfl, hsl, _⟩ := own_sl ho
  rcases hsl with h0 | ⟨b, o, rfl, hc⟩
  · simp at h0
  have x0 := hc 0 (by simp)
  simp at x0
  have d0 := hs5.1.at 0 (by omega)
  have d4 := hs5.1.at 4 (by omega)
  have d7 := hs5.1.at 7 (by omega)
  rw [HF0.out] at d0
  rw [HF4.out] at d4
  rw [HF7.out] at d7
  have HR5 := Lib.hid hr5
  clear ho hs5 hk5 hc hr5
  go_wp2_with fail
  refine (words_any R 2 3 _ _ _ (by exact HR5.out) (by omega) (by omega) (by omega)).mono ?_
  rintro e w6 ⟨rfl, hb6⟩
  go_wp2
  go_ret
  exact ⟨by simp, bstep HB5.out hb6⟩
end Go.Proofs.Ytbgpimdigkiflaa
