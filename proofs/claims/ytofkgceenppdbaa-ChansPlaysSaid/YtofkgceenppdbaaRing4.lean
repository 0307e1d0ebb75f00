/- A ring's Recv of a message, over words that are kept by whatever keeps them. -/
import Derived.Test.YtofkgceenppdbaaRing3
import Derived.StillTailTactics
namespace Go.Proofs.Ytofkgceenppdbaa
open Go.RowKit
set_option linter.unusedVariables false
set_option linter.unusedSimpArgs false
variable {R K N : Nat} {S : (Nat → Int) → World → Prop} {PF GF : FuncId} {rv : Value}
theorem ieW : IntElem Try.prog 41 40 .u32 4 := ⟨Try.underlying41, by kernel_rfl, by decide⟩
/-- a message's words -/
def msg (f : Nat → Int) (p n : Nat) : List Int := (List.range n).map fun i => f (p + 1 + i)
theorem msg_length (f : Nat → Int) (p n : Nat) : (msg f p n).length = n := by simp [msg]
theorem msg_snoc (f : Nat → Int) (p n : Nat) : msg f p (n + 1) = msg f p n ++ [f (p + 1 + n)] := by
  unfold msg
  rw [List.range_succ, List.map_append]
  rfl
theorem wf_u32 {n : Int} (h0 : 0 ≤ n) (h1 : n < 4294967296) : (Lit.int .u32 n).wf = true := by
  have e1 : IntKind.u32.min = 0 := rfl
  have e2 : IntKind.u32.max = 4294967295 := rfl
  simp only [Lit.wf, Bool.and_eq_true, decide_eq_true_eq]
  omega
theorem get_iv (kp : Keeps R K N S PF GF rv) (f : Nat → Int) (W : World) (a : Nat) (iv : Int) (hiv : iv = a) (hS : S f W) (ha : a < N) :
    Calls Try.prog GF #[rv, .int .i64 iv] W fun e W' => e = .returned (.int .u32 (f a)) ∧ Below W.heap.size W W' := by
  subst hiv
  exact kp.get f W a hS ha
set_option maxHeartbeats 1000000 in
theorem recv_some (kp : Keeps R K N S PF GF rv) (c d a m : Nat) (f : Nat → Int) (w : World) (hc : 1 ≤ c) (hc8 : c ≤ 8) (hd : 1 ≤ d) (hd8 : d ≤ 8) (ha : a < c) (hm : 1 ≤ m) (hmc : m ≤ c) (hN : c * (d + 1) ≤ N) (hN2 : N ≤ 100000)
    (hR : IsRing w R c d a m) (hS : S f w) :
    Calls Try.prog 39 #[.pointer (some ⟨R, 0, none⟩), .func (.func GF) #[rv] #[]] w fun e w' => ∃ v, e = .returned (.tuple #[v, .int .i64 0]) ∧
      w'.ownsInts w.heap.size 40 .u32 v (msg f (plc c d a 0) (nx f (plc c d a 0) d)) ∧ IsRing w' R c d ((a + 1) % c) (m - 1) ∧ Kept R w w' := by
  have hqG := eqG
  have eG := kp.eG
  have hp := plc_le (c := c) (d := d) (a := a) (k := 0) hc
  have hnx := nx_le f (plc c d a 0) d
  have hnx1 := nx_pos f (plc c d a 0) d hd
  obtain ⟨h0, h1, h2, h3, f2, f3⟩ := hR.cells
  have t3 : ((m : Int) == 0) = false := beq_eq_false_iff_ne.2 (by omega)
  have hRl := bk_lt hR
  have HR := Lib.hid hR
  have HS := Lib.hid hS
  clear hR hS
  have hpN : plc c d a 0 + (d + 1) ≤ N := Nat.le_trans hp hN
  go_enter Try.func39, Try.ntmps39
  go_wp2_with fail
  refine (none_not R c d a m _ (by exact HR.out) hc).mono ?_
  rintro e w1 ⟨rfl, rfl⟩
  go_wp2_with fail
  refine (next_some kp c d a m f _ hc hc8 hd8 ha hm hN HR.out HS.out).mono ?_
  rintro e w2 ⟨rfl, hb2⟩
  have HB2 := Lib.hid hb2
  clear hb2 h0 h1 h2 h3 f2 f3
  generalize hnn : nx f (plc c d a 0) d = n at *
  have HNN := Lib.hid hnn
  clear hnn
  go_wp2_with fail
  go_loopw [6, 24] (fun v i W' => ∃ k : Nat, k ≤ n ∧ i = .int .i64 k ∧ W'.ownsInts w1.heap.size 40 .u32 v (msg f (plc c d a 0) k) ∧ Below w1.heap.size w1 W') (fun _ i _ => n - (intOf i).toNat)
  case atStart => exact ⟨0, by omega, rfl, World.ownsInts_nil _ _ _ _, HB2.out⟩
  case round =>
    obtain ⟨k, hk, rfl, ho, hb⟩ := hrel
    by_cases hkn : k < n
    · have hkn' : (k : Int) < n := by omega
      have hB := hb.size
      have hxw := kp.word HS.out (plc c d a 0 + 1 + k) (by omega)
      have hlen : (msg f (plc c d a 0) k).length < 100000000 := by rw [msg_length]; omega
      have HO := Lib.hid ho
      have HB := Lib.hid hb
      clear ho hb
      go_wp2_with fail
      refine (place_any R c d a m 0 _ (by exact HR.out.below HB.out) hc hc8 hd8 (by omega) (by omega)).mono ?_
      rintro e w3 ⟨rfl, hb3⟩
      have HB3 := Lib.hid (bstep HB.out hb3)
      have HO3 := Lib.hid (own_below HO.out hb3)
      have HS3 := Lib.hid (kp.keep HS.out (.of_below HB3.out))
      clear hb3
      have s1 : IntKind.i64.wrap (((plc c d a 0 : Nat) : Int) + 1) = ((plc c d a 0 : Nat) : Int) + 1 := IntWalk.i64_in _ (by omega)
      have s2 : IntKind.i64.wrap (((plc c d a 0 : Nat) : Int) + 1 + k) = ((plc c d a 0 : Nat) : Int) + 1 + k := IntWalk.i64_in _ (by omega)
      go_wp2_with fail
      refine (get_iv kp f _ (plc c d a 0 + 1 + k) _ (by omega) HS3.out (by omega)).mono ?_
      rintro e w4 ⟨rfl, hb4⟩
      have HB4 := Lib.hid (bstep HB3.out hb4)
      have HO4 := Lib.hid (own_below HO3.out hb4)
      have hB4 := HB4.out.size
      clear hb4
      go_wp2_with (at_builtin; refine app1 rfl _ _ _ rfl ieW _ (msg f (plc c d a 0) k) (f (plc c d a 0 + 1 + k)) (by rfl) HO4.out (by rfl) (wf_u32 hxw.1 hxw.2) hlen hB4 ?_; intro v' w5 o5 hb5 hg5)
      refine ⟨⟨k + 1, by omega, by go_num, by rw [msg_snoc]; exact o5, HB4.out.trans hb5⟩, by simp [intOf]; omega⟩
    · have hkn2 : k = n := by omega
      subst hkn2
      have HR5 := Lib.hid (HR.out.below hb)
      obtain ⟨h0, h1, h2, h3, f2, f3⟩ := HR5.out.cells
      have HO := Lib.hid ho
      have HB := Lib.hid hb
      clear ho hb
      have s1 : IntKind.i64.wrap ((a : Int) + 1) = (a : Int) + 1 := IntWalk.i64_in _ (by omega)
      have s2 : IntKind.i64.wrap ((m : Int) - 1) = (m : Int) - 1 := IntWalk.i64_in _ (by omega)
      have hz : ((c : Int) == 0) = false := beq_eq_false_iff_ne.2 (by omega)
      go_wp2_with fail
      go_region
      go_wp2
      go_ret2
      rw [HNN.out]
      refine ⟨_, rfl, ?_, ?_, ?_⟩
      · refine (HO.out.kept (row := some R) ?_ ?_)
        · exact ⟨rfl, rfl, rfl, by simp, fun k hk hne => (Below.heap_setCell _ _ _ k (fun e => hne (by rw [e]))).trans (Below.heap_setCell _ _ _ k (fun e => hne (by rw [e])))⟩
        · by_cases hv : (u6 : Value).ownBlock = some R
          · have := (HO.out.1.lt R hv).1
            omega
          · exact .inr hv
      · have e1 : ((a : Int) + 1) % c = ((a + 1) % c : Nat) := by push_cast; rfl
        have e2 : (m : Int) - 1 = (m - 1 : Nat) := by omega
        rw [e1, e2]
        exact (HR5.out.set2 ((a + 1) % c)).set3 (m - 1)
      · exact ((((Kept.of_below HB.out).setCell 2 _).setCell 3 _).drew)
end Go.Proofs.Ytofkgceenppdbaa
