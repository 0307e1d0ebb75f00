/- Helper text of this seat (LFull): contracts of functions of the given program and of its references, each told by its theorem. -/
import Derived.Test.YtbgpimdigkiflaaNone
namespace Go.Proofs.Ytbgpimdigkiflaa
open Go.RowKit
set_option linter.unusedVariables false
set_option linter.unusedSimpArgs false
theorem alloc_b (w : World) (o : Obj) : Below w.heap.size w (w.alloc o) := (Below.refl _ _).alloc (Nat.le_refl _) _
theorem KS.alloc {w : World} {K : Nat} {f : Nat → Int} (h : KS K f w) (o : Obj) : KS K f (w.alloc o) := ⟨h.1.alloc o, h.2⟩
theorem KS.below {w w' : World} {K : Nat} {f : Nat → Int} (h : KS K f w) (hb : Below w.heap.size w w') : KS K f w' := ⟨h.1.below hb, h.2⟩
theorem RS.alloc {K R c d : Nat} (hne : K ≠ R) {L : List (List Int)} {w : World} (h : RS (KS K) R c d L w) (o : Obj) : RS (KS K) R c d L (w.alloc o) := h.below (keeps R K hne) ((Below.refl _ _).alloc (Nat.le_refl _) _)
theorem ks_new (w : World) : KS w.heap.size (fun _ => 0) (w.alloc (.cells (kc (fun _ => 0) false) 37)) := ⟨bk_new w _, fun i => ⟨by simp, by simp⟩⟩
theorem rs_new {R K c d : Nat} {w : World} {f : Nat → Int} (hr : IsRing w R c d 0 0) (hs : KS K f w) (hc : 1 ≤ c) : RS (KS K) R c d [] w := ⟨0, f, hr, hs, by omega, by simp, .nil _ _ _ _⟩
theorem kc_size (f : Nat → Int) (b : Bool) : (kc f b).size = 73 := by simp [kc]
theorem kc_one (f : Nat → Int) (b : Bool) : (kc f b).all (·.oneCell') = true := by
  rw [Array.all_eq_true']
  intro x hx
  have : x ∈ (kc f b).toList := by simpa using hx
  simp only [kc, List.mem_append, List.mem_map, List.mem_singleton] at this
  rcases this with ⟨i, _, rfl⟩ | rfl <;> rfl
theorem kc_infof (f : Nat → Int) (b : Bool) : (Try.prog.info? 37).map (·.size) = some (kc f b).size := by rw [kc_size]; kernel_rfl
theorem kc_zerof (f : Nat → Int) (b : Bool) : (((Try.prog.info? 37).bind (·.zero)).map fun z => z.cells.size) = some (kc f b).size := by rw [kc_size]; kernel_rfl
def ones (j : Nat) : List (List Int) := (List.range j).map fun i : Nat => [(i : Int) + 1]
theorem ones_cons (n : Nat) : ∃ T : List (List Int), ones (n + 1) = [1] :: T ∧ T.length = n := by
  refine ⟨(List.range n).map fun i : Nat => [((i + 1 : Nat) : Int) + 1], ?_, by simp⟩
  unfold ones
  rw [List.range_succ_eq_map]
  simp
theorem ones_length (j : Nat) : (ones j).length = j := by simp [ones]
theorem ones_snoc (j : Nat) : ones (j + 1) = ones j ++ [[(j : Int) + 1]] := by
  unfold ones
  rw [List.range_succ, List.map_append]
  rfl
set_option maxHeartbeats 4000000 in
theorem RingFull_any (c d x : Int) (w : World) (hx0 : 0 ≤ x) (hx1 : x < 4294967296) :
    Calls Try.prog 7 #[.int .i64 c, .int .i64 d, .int .u32 x] w fun e w' => e = .returned (.bool true) ∧ Below w.heap.size w w' := by
  have hmf : ∀ (fn : Fn) (first cap : Array Value) (w : World), (Instr.makeFunc fn first cap).run Try.prog w = .ok (.func fn first cap) w := fun _ _ _ _ => rfl
  have hz := zero_kept
  by_cases hbad : c < 1 ∨ 8 < c ∨ d < 1 ∨ 8 < d
  · go_enter Try.func7, Try.ntmps7
    go_wp2_with fail
    refine (new_bad c d _ hbad).mono ?_; rintro e w1 ⟨rfl, rfl⟩
    go_wp2_with fail
    refine (awake_any _).mono ?_; rintro e w3 ⟨rfl, b3⟩
    go_wp2
    go_ret
    exact ⟨rfl, b3⟩
  · obtain ⟨c, rfl⟩ : ∃ q : Nat, c = q := ⟨c.toNat, by omega⟩
    obtain ⟨d, rfl⟩ : ∃ q : Nat, d = q := ⟨d.toNat, by omega⟩
    have hc1 : 1 ≤ c := by omega
    have hc8 : c ≤ 8 := by omega
    have hd1 : 1 ≤ d := by omega
    have hd8 : d ≤ 8 := by omega
    have hN := cap_le hc8 hd8
    clear hbad
    go_enter Try.func7, Try.ntmps7
    go_wp2_with fail
    refine (new_rs c d _ hc1 hc8 hd1 hd8).mono ?_
    rintro e w1 ⟨R, rfl, hr1, hR1, hb1⟩
    have hRl := bk_lt hr1
    have hne : w1.heap.size ≠ R := by omega
    have kp := keeps R w1.heap.size hne
    have hs2 : RS (KS w1.heap.size) R c d [] (w1.alloc (.cells (kc (fun _ => 0) false) 37)) := rs_new (hr1.alloc _) (ks_new w1) hc1
    have hb2 : Below w.heap.size w (w1.alloc (.cells (kc (fun _ => 0) false) 37)) := hb1.alloc hb1.size _
    have hz2 := hb1.size
    have HS2 := Lib.hid hs2
    have HB2 := Lib.hid hb2
    clear hr1 hb1 hs2 hb2
    go_wp2_with fail
    go_loopw [10] (fun i W' => ∃ j : Nat, j ≤ c ∧ i = .int .i64 j ∧ RS (KS w1.heap.size) R c d (ones j) W' ∧ Below w.heap.size w W') (fun i _ => c - (intOf i).toNat)
    case atStart => exact ⟨0, by omega, rfl, HS2.out, HB2.out⟩
    case round =>
      obtain ⟨j, hj, rfl, hs, hb⟩ := hrel
      by_cases hjc : j < c
      · have hjc' : (j : Int) < c := by omega
        have s1 : IntKind.i64.wrap ((j : Int) + 1) = (j : Int) + 1 := IntWalk.i64_in _ (by omega)
        have s2 : IntKind.u32.wrap ((j : Int) + 1) = (j : Int) + 1 := IntWalk.u32_in _ (by omega)
        have hlt := hs.lt
        have hKl := (by obtain ⟨_, _, _, h, _⟩ := hs; exact bk_lt h.1 : w1.heap.size < wr.heap.size)
        have HS := Lib.hid hs
        have HB := Lib.hid hb
        clear hs hb
        go_wp2_with fail
        refine (rs_send kp c d wr.heap.size 0 1 (ones j) [(j : Int) + 1] _ hc1 hc8 hd8 hN (by omega) (by exact HS.out.alloc hne _) (by rw [ones_length]; exact hjc) (by simp) (by simp; omega) (by omega) (by omega)
          (one_get (by exact (bk_cell (bk_new wr _) 0).trans rfl)) (one_word (by omega) (by omega))).mono ?_
        rintro e w3 ⟨rfl, hs3, hk3⟩
        rw [← ones_snoc] at hs3
        have HS3 := Lib.hid hs3
        have HB3 := Lib.hid (hk3.below (HB.out.alloc HB.out.size _) hR1 (by omega) (by have := HB.out.size; simp; omega))
        clear hs3 hk3
        go_wp2_with fail
        refine (rs_len c d _ _ HS3.out).mono ?_; rintro e w4 ⟨rfl, rfl⟩
        rw [ones_length]
        go_wp2
        exact ⟨⟨j + 1, by omega, by go_num, HS3.out, HB3.out⟩, by simp [intOf]; omega⟩
      · have hjc2 : j = c := by omega
        subst hjc2
        obtain ⟨a, f, hr, hk, ha, hlc, hl⟩ := hs
        rw [ones_length] at hr
        have hKl := bk_lt hk.1
        have hRl2 := bk_lt hr
        have HR := Lib.hid hr
        have HK := Lib.hid hk
        have HLi := Lib.hid hl
        have HB := Lib.hid hb
        have hzb := hb.size
        obtain ⟨wo, rfl⟩ : ∃ wo : World, wo = wr := ⟨_, rfl⟩
        have hneq := fun w => neq_kept f false w
        clear hr hk hl hb hlc
        go_wp2_with (first
          | (refine wpList_load_row_w 37 _ rfl (by rfl) w1.heap.size (by rfl) 37 (kc f false) (0, 0) _ (by exact HK.out.1) Try.underlying37 rfl (kc_infof f false) ?_)
          | (refine wpList_alloc_store rfl rfl 37 rfl _ _ rfl (kc f false) (kc_zerof f false) (kc_infof f false) (by rfl) (by rfl) (kc_one f false) ?_))
        refine (send_full _ 1 1 _ _ _ j d a _ (by exact (HR.out.alloc _).alloc _) (by omega) (by omega) (by omega)).mono ?_
        rintro e w5 ⟨rfl, hb5⟩
        have hb05 : Below wo.heap.size wo w5 := bstep (by go_grown) hb5
        have hw5 : w5.heap[wo.heap.size]? = some (.cells (kc f false) 37 (0, 0)) := bk_below (bk_alloc (bk_new wo _) _) hb5
        have HW5 := Lib.hid hw5
        have HR5 := Lib.hid (HR.out.below hb05)
        have HK5 := Lib.hid (HK.out.below hb05)
        have HB5 := Lib.hid (bstep HB.out hb05)
        have hzw5 := hb05.size
        have s1 : IntKind.i64.wrap ((d : Int) + 1) = (d : Int) + 1 := IntWalk.i64_in _ (by omega)
        obtain ⟨i0, hi, hz0, hz1, hz2⟩ := info_parts ieW.hi
        clear hb5 hb05 hw5
        go_wp2_with (refine wpList_make_full _ rfl _ _ 38 rfl w5.heap.size 34 i0 _ 1 ieW.ht hi hz0 hz1 .i64 .i64 ((d : Int) + 1) ((d : Int) + 1) (d + 1) (by rfl) (by rfl) (by omega) (by omega) (by rw [hz2]; omega) (by simp [maxLen]; omega) (Nat.le_refl _) ?_; intro w6 hown6 hg6)
        have hb6 : Below w5.heap.size w5 w6 := ⟨hg6.os, hg6.tape, hg6.output, hg6.size, fun k hk => hg6.block k hk (by simp)⟩
        have HR6 := Lib.hid (HR5.out.below hb6)
        refine (send_arg _ (d + 1) (d + 1) _ _ _ j d a j _ (by exact HR6.out) (by omega) (by omega)).mono ?_
        rintro e w7 ⟨rfl, hb7⟩
        have hb57 : Below w5.heap.size w5 w7 := bstep hb6 hb7
        have HR7 := Lib.hid (HR5.out.below hb57)
        have HK7 := Lib.hid (HK5.out.below hb57)
        have HW7 := Lib.hid (bk_below HW5.out hb57)
        have HB7 := Lib.hid (bstep HB5.out hb57)
        have hzw7 := hb57.size
        obtain ⟨n, rfl⟩ : ∃ n, j = n + 1 := ⟨j - 1, by omega⟩
        obtain ⟨T, hT, hTl⟩ := ones_cons n
        have hs7 : RS (KS w1.heap.size) R (n + 1) d ([1] :: T) w7 := ⟨a, f, by rw [← hT, ones_length]; exact HR7.out, HK7.out, ha, by simp [hTl], by rw [← hT]; exact HLi.out⟩
        have HS7 := Lib.hid hs7
        have HTl := Lib.hid hTl
        clear hb6 hb7 hb57 hown6 hg6 hi hz0 hz1 hz2 hT hTl hs7
        go_wp2_with (first
          | (refine wpList_load_row_w 37 _ rfl (by rfl) w1.heap.size (by rfl) 37 (kc f false) (0, 0) _ (by exact HK7.out.1) Try.underlying37 rfl (kc_infof f false) ?_)
          | (refine wpList_load_row_w 37 _ rfl (by rfl) wo.heap.size (by rfl) 37 (kc f false) (0, 0) _ (by exact HW7.out) Try.underlying37 rfl (kc_infof f false) ?_))
        refine (rs_recv kp (n + 1) d T [1] _ (by omega) hc8 hd1 hd8 hN (by omega) (by exact HS7.out)).mono ?_
        rintro e w8 ⟨v, rfl, ho8, hs8, hk8⟩
        obtain ⟨p8, c8, rfl, hsl8, hlt8⟩ := own_sl ho8
        rcases hsl8 with h0 | ⟨b8, o8, rfl, hc⟩
        · simp at h0
        have x0 := hc 0 (by simp)
        simp at x0
        have hb8 := hlt8 _ _ rfl
        have HS8 := Lib.hid hs8
        have HB8 := Lib.hid (hk8.below HB7.out hR1 HB7.out.size)
        have hzw8 := hk8.size
        have hR8 : R < w8.heap.size := by omega
        clear ho8 hs8 hk8 hlt8 hc
        go_wp2_with fail
        refine (rs_send kp (n + 1) d w8.heap.size 0 1 T [x] _ (by omega) hc8 hd8 hN (by omega) (by exact HS8.out.alloc hne _) (by have := HTl.out; omega) (by simp) (by simp; omega) (by omega) (by omega)
          (one_get (by exact (bk_cell (bk_new w8 _) 0).trans rfl)) (one_word hx0 hx1)).mono ?_
        rintro e w9 ⟨rfl, hs9, hk9⟩
        have x9 := hk9.cell (keepc (alloc_b w8 (.cells #[.int .u32 x] 34)) x0) (by omega) (by omega)
        have HS9 := Lib.hid hs9
        have HB9 := Lib.hid (hk9.below (HB8.out.alloc HB8.out.size _) hR1 (by omega) (by have := HB8.out.size; simp; omega))
        clear hs9 hk9 x0
        go_wp2_with fail
        refine (rs_len (n + 1) d _ _ HS9.out).mono ?_; rintro e w10 ⟨rfl, rfl⟩
        have hl9 : (((T ++ [[x]]).length : Nat) : Int) = ((n + 1 : Nat) : Int) := by have := HTl.out; simp; omega
        rw [hl9]
        go_wp2_with fail
        refine (awake_any _).mono ?_; rintro e w11 ⟨rfl, b11⟩
        go_wp2
        go_ret
        exact ⟨rfl, bstep HB9.out b11⟩
end Go.Proofs.Ytbgpimdigkiflaa
