/- Helper text of this seat (ZE): contracts of functions of the given program and of its references, and the laws' plain parts, each told by its theorem. Conditions: as each theorem names them. -/
import Derived.Test.YthgoighpmnecbaaZA
import Derived.Test.YthgoighpmnecbaaZB
import Derived.Lib.Builder
import Derived.Lib.Hide
import Derived.Lib.AppendStr
import Derived.Lib.UnsafeStr
import Derived.Laws.Externs
import Derived.Laws.Entries
import Derived.WalkKit
import Derived.Deep.QuietTactic
import Derived.BigQuiet
import Derived.Test.YthgoighpmnecbaaPPutx1
import Derived.Test.YthgoighpmnecbaaPBytesx1
import Derived.Deep.RegionHeld3
namespace Go.Proofs.Ythgoighpmnecbaa
open Go.RowKit
set_option linter.unusedVariables false
set_option linter.unusedSimpArgs false
theorem bld_lies : liesAt Try.prog Try.prog.depth 51 (2 / Try.prog.cellsOf 51) 0 51 1 = true := by kernel_rfl
theorem bld_size : (Try.prog.info? 51).map (·.size) = some 2 := by kernel_rfl
theorem byte_info : (Try.prog.info? 5).map (fun i => (i.zero, i.size, i.bytes)) = some (some (.int .u8 0), 1, 1) := by kernel_rfl
theorem byte_cells : Try.prog.cellsOf 5 = 1 := by kernel_rfl
set_option maxHeartbeats 1000000 in
set_option maxRecDepth 100000 in
theorem check_used (b : Nat) (w : World) (h0 : w.cell? ⟨b, 0, none⟩ = some (.pointer (some ⟨b, 0, none⟩))) :
    Calls Try.prog 56 #[.pointer (some ⟨b, 0, none⟩)] w fun e w' => e = .returned (.tuple #[]) ∧ w' = w := by
  obtain ⟨j, hj, _⟩ := Option.map_eq_some_iff.1 bld_size
  go_enter Try.func56, Try.ntmps56
  go_wp2
  rw [Lib.run_neq_ptr_same w _ Try.underlying48 hj]
  go_wp2
  go_end0
  exact ⟨rfl, rfl⟩
set_option maxHeartbeats 1000000 in
set_option maxRecDepth 100000 in
theorem check_fresh (b : Nat) (w : World) (h0 : w.cell? ⟨b, 0, none⟩ = some (.pointer none)) (hsh : w.shape? b = some (51, 2)) (hfz : w.frozen? ⟨b, 0, none⟩ = false) :
    Calls Try.prog 56 #[.pointer (some ⟨b, 0, none⟩)] w fun e w' => e = .returned (.tuple #[]) ∧ w' = w.setCell ⟨b, 0, none⟩ (.pointer (some ⟨b, 0, none⟩)) := by
  obtain ⟨j, hj, hjs⟩ := Option.map_eq_some_iff.1 bld_size
  have hun : Try.prog.underlying 107 = some .unsafePointer := by kernel_rfl
  go_enter Try.func56, Try.ntmps56
  go_wp2
  rw [Lib.run_to_unsafe w ⟨b, 0, none⟩ Try.underlying48 hun hj (by rw [hjs]; decide) hsh (Nat.zero_lt_succ 1)]
  simp only [Result.andThen]
  rw [Oper.upon_value]
  go_wp2
  rw [run_callFunc_extern Try.func64 (by kernel_rfl) (by kernel_rfl) (by kernel_rfl) (e := Extern.AbiNoEscape.same) (by kernel_rfl)]
  rw [Lib.run_noEscape]
  simp only [Result.andThen]
  rw [Oper.upon_value]
  go_wp2
  rw [Lib.run_from_unsafe w ⟨b, 0, none⟩ hun Try.underlying48 hj hsh bld_lies]
  simp only [Result.andThen]
  rw [Oper.upon_value]
  go_wp2
  go_end0
  exact ⟨rfl, rfl⟩
/-- all blocks but those of bytes and of builders -/
def KT (w w' : World) : Prop := ∀ (i : Nat) cs e fr, w.heap[i]? = some (.cells cs e fr) → e ≠ 5 → e ≠ 51 → w'.heap[i]? = some (.cells cs e fr)
theorem KT.refl (w : World) : KT w w := fun _ _ _ _ h _ _ => h
theorem KT.trans {a b c : World} (h : KT a b) (k : KT b c) : KT a c := fun i cs e fr h1 h2 h3 => k i cs e fr (h i cs e fr h1 h2 h3) h2 h3
theorem KT.of_below {w w' : World} (h : Below w.heap.size w w') : KT w w' := fun i cs e fr h1 _ _ => (h.block i (Array.getElem?_eq_some_iff.1 h1).1).trans h1
theorem KT.set {w : World} {b o : Nat} {cs : Array Value} {fr : Nat × Nat} (hb : w.heap[b]? = some (.cells cs 51 fr)) (x : Value) : KT w (w.setCell ⟨b, o, none⟩ x) := by
  intro i cs' e fr' h1 h2 h3
  by_cases hi : i = b
  · subst hi
    rw [hb] at h1
    simp only [Option.some.injEq, Obj.cells.injEq] at h1
    exact absurd h1.2.1.symm h3
  · rw [Below.heap_setCell _ _ _ _ hi]
    exact h1
theorem KT.cell {w w' : World} (h : KT w w') {i o e : Nat} {cs : Array Value} {fr : Nat × Nat} (h1 : w.heap[i]? = some (.cells cs e fr)) (h2 : e ≠ 5) (h3 : e ≠ 51) : w'.cell? ⟨i, o, none⟩ = cs[o]? := Lib.cell_of_heap (h i cs e fr h1 h2 h3) o
theorem bcheck_any (B b : Nat) (bs : List Value) (w : World) (h : Lib.IsBuilder 51 5 B b bs w) :
    Calls Try.prog 56 #[.pointer (some ⟨b, 0, none⟩)] w fun e w' => e = .returned (.tuple #[]) ∧ (Lib.BuilderAt 51 5 B b (.pointer (some ⟨b, 0, none⟩)) bs w' ∧ Below B w w' ∧ KT w w') := by
  rcases h with h | h
  · refine (check_fresh b w h.cell0 h.shape h.frozen0).mono ?_
    rintro e w' ⟨rfl, rfl⟩
    exact ⟨rfl, h.used _, (Below.refl B w).setCell (p := ⟨b, 0, none⟩) h.1 _, KT.set h.2.choose_spec.1 _⟩
  · refine (check_used b w h.cell0).mono ?_
    rintro e w' ⟨rfl, rfl⟩
    exact ⟨rfl, h, Below.refl B _, KT.refl _⟩
set_option maxHeartbeats 2000000 in
set_option maxRecDepth 100000 in
theorem bwrite_any (B b : Nat) (bs : List Value) (s : ByteArray) (w : World) (h : Lib.IsBuilder 51 5 B b bs w) (hlen : bs.length + s.size ≤ 140737488355328) (hBw : B ≤ w.heap.size) :
    Calls Try.prog 22 #[.pointer (some ⟨b, 0, none⟩), .string s] w fun e w' => e = .returned (.tuple #[.int .i64 s.size, .nilIface]) ∧ (Lib.BuilderAt 51 5 B b (.pointer (some ⟨b, 0, none⟩)) (bs ++ Lib.strCells s) w' ∧ Below B w w' ∧ KT w w') := by
  obtain ⟨i0, hi, hz0, hz1, hz2⟩ := info_parts byte_info
  go_enter Try.func22, Try.ntmps22
  go_wp2_with (go_at_call 56; refine (bcheck_any B b bs _ h).mono ?_)
  rintro e w1 ⟨rfl, h1, hb1, hk1⟩
  obtain ⟨hB, v, hbk, hown, hne⟩ := h1
  have c0 : w1.cell? ⟨b, 0, none⟩ = some (.pointer (some ⟨b, 0, none⟩)) := by rw [Lib.cell_of_heap hbk]; rfl
  have c1 : w1.cell? ⟨b, 1, none⟩ = some v := by rw [Lib.cell_of_heap hbk]; rfl
  go_wp2_with (at_builtin; refine Lib.wpList_append_own_string _ rfl _ _ 49 9 rfl B 5 i0 Try.underlying49 Try.underlying9 hi hz0 hz1 hz2 _ _ _ rfl hown s rfl ?c3 ?c4 ?c5 ?_)
  case c3 => unfold maxLen; omega
  case c4 => omega
  case c5 => have := hb1.size; omega
  intro v' w2 hown' hgrow _
  have hlt : b < w1.heap.size := by
    rcases Nat.lt_or_ge b w1.heap.size with h' | h'
    · exact h'
    · simp [Array.getElem?_eq_none h'] at hbk
  have hb2 : w2.heap[b]? = some (.cells #[.pointer (some ⟨b, 0, none⟩), v] 51 (0, 0)) := by
    rw [hgrow.block b hlt (fun e => hne e.symm)]
    exact hbk
  have d0 : w2.cell? ⟨b, 0, none⟩ = some (.pointer (some ⟨b, 0, none⟩)) := by rw [Lib.cell_of_heap hb2]; rfl
  have d1 : w2.cell? ⟨b, 1, none⟩ = some v := by rw [Lib.cell_of_heap hb2]; rfl
  have f1 : w2.frozen? ⟨b, 1, none⟩ = false := Lib.frozen_of_heap hb2 1
  obtain ⟨ao, n', cap, rfl⟩ : ∃ ao n' cap, v' = .slice ao n' cap := by
    rcases hown'.2 with ⟨hv, _⟩ | ⟨g, cap, cur, hv, _⟩
    · exact ⟨_, _, _, hv⟩
    · exact ⟨_, _, _, hv⟩
  have hk2 : KT w1 w2 := by
    intro i cs e fr h1 h2 h3
    refine (hgrow.block i (Array.getElem?_eq_some_iff.1 h1).1 (fun e1 => ?_)).trans h1
    obtain ⟨_, ho⟩ := hown
    rcases ho with ⟨rfl, _⟩ | ⟨g, cap0, cur, rfl, _, hg, _⟩
    · cases e1
    · simp only [Value.ownBlock, Option.some.injEq] at e1
      subst e1
      rw [hg] at h1
      simp only [Option.some.injEq, Obj.cells.injEq] at h1
      exact h2 h1.2.1.symm
  have hk3 := (hk1.trans hk2).trans (KT.set (o := 1) hb2 (.slice ao n' cap))
  have HK3 := Lib.hid hk3
  clear hk1 hk2 hk3
  go_wp2
  go_ret2
  refine ⟨rfl, ?_, ?_, HK3.out⟩
  · exact Lib.BuilderAt.put (T := 51) (e := 5) hB hb2 (bs' := bs ++ Lib.strCells s) (by simpa [Lib.strCells_length] using hown') (by decide)
  · exact (hb1.grown hgrow (by have := hb1.size; omega) (fun k hk => (hown.lt k hk).1)).setCell (p := ⟨b, 1, none⟩) hB _
set_option maxHeartbeats 1000000 in
set_option maxRecDepth 100000 in
theorem bstring_any (B b : Nat) (l : List UInt8) (w : World) (h : Lib.IsBuilder 51 5 B b (Lib.byteCells l) w) (h0 : l ≠ []) :
    Calls Try.prog 31 #[.pointer (some ⟨b, 0, none⟩)] w fun e w' => e = .returned (.string ⟨l.toArray⟩) ∧ Below B w w' := by
  obtain ⟨p, hB, v, hbk, hown, hne⟩ : ∃ p, Lib.BuilderAt 51 5 B b p (Lib.byteCells l) w := by
    rcases h with h | h
    · exact ⟨_, h⟩
    · exact ⟨_, h⟩
  have hl0 : l.length ≠ 0 := by simpa using h0
  rw [Lib.byteCells_length] at hown
  obtain ⟨g, cap, cur, rfl, hbg, hg, hnc, hcm, hcs, htake⟩ : ∃ g cap cur, v = .slice (some ⟨g, 0, none⟩) l.length cap ∧ B ≤ g ∧ w.heap[g]? = some (.cells cur 5 (0, 0)) ∧ l.length ≤ cap ∧ cap ≤ maxLen ∧ cur.size = cap * 1 ∧ cur.toList.take (l.length * 1) = Lib.byteCells l := by
    rcases hown.2 with ⟨_, hz⟩ | ⟨g, cap, cur, hv, r⟩
    · exact absurd hz hl0
    · exact ⟨g, cap, cur, hv, r⟩
  have c1 : w.drew.cell? ⟨b, 1, none⟩ = some (.slice (some ⟨g, 0, none⟩) l.length cap) := by
    have : w.drew.heap[b]? = some (.cells #[p, .slice (some ⟨g, 0, none⟩) l.length cap] 51 (0, 0)) := hbk
    rw [Lib.cell_of_heap this]; rfl
  have hSD : (Builtin.unsafeSliceData_ #[49] 93 #[.slice (some ⟨g, 0, none⟩) l.length cap]).run Try.prog w.drew = .ok (.pointer (some ⟨g, 0, none⟩)) w.drew :=
    Lib.run_unsafeSliceData_row _ _ _ _ _ _ (by omega)
  have hUS : (Builtin.unsafeString_ #[93, 3] 9 #[.pointer (some ⟨g, 0, none⟩), .int .i64 l.length]).run Try.prog w.drew = .ok (.string ⟨l.toArray⟩) (w.drew.freeze ⟨g, 0, none⟩ l.length) := by
    refine Lib.run_unsafeString_row w.drew 93 3 9 5 Try.underlying93 byte_cells g cur.size (by have hg' : w.drew.heap[g]? = some (.cells cur 5 (0, 0)) := hg; simp [World.shape?, hg']) l h0 (by omega) (by unfold maxLen at hcm; omega) ?_
    intro j x hx
    have := hown.cells (g := g) rfl j (.int .u8 x.toNat) (by simp [Lib.byteCells, hx])
    exact this
  go_enter Try.func31, Try.ntmps31
  go_wp2
  go_region
  all_goals (go_wp2; go_ret; exact ⟨rfl, Lib.below_freeze (Below.drew (Below.refl B w)) (p := ⟨g, 0, none⟩) hbg _⟩)
end Go.Proofs.Ythgoighpmnecbaa
namespace Go.Proofs.Ythgoighpmnecbaa
open Go.RowKit
set_option linter.unusedVariables false
set_option linter.unusedSimpArgs false
theorem ieN : IntElem Try.prog 56 3 .i64 8 := ⟨Try.underlying56, by kernel_rfl, by decide⟩
def rows2 (X Y : Nat → Int) : Nat → List Int
  | 0 => []
  | k + 1 => rows2 X Y k ++ [X k, Y k]
def rows4 (X Y Z U : Nat → Int) : Nat → List Int
  | 0 => []
  | k + 1 => rows4 X Y Z U k ++ [X k, Y k, Z k, U k]
theorem rows2_len (X Y : Nat → Int) : ∀ k, (rows2 X Y k).length = k * 2
  | 0 => rfl
  | k + 1 => by simp only [rows2, List.length_append, rows2_len X Y k, List.length_cons, List.length_nil]; omega
theorem rows4_len (X Y Z U : Nat → Int) : ∀ k, (rows4 X Y Z U k).length = k * 4
  | 0 => rfl
  | k + 1 => by simp only [rows4, List.length_append, rows4_len X Y Z U k, List.length_cons, List.length_nil]; omega
theorem wfI {n : Int} (h0 : -9223372036854775808 ≤ n) (h1 : n < 9223372036854775808) : (Lit.int .i64 n).wf = true := by
  simp [Lit.wf]
  exact ⟨show (-9223372036854775808 : Int) ≤ n from h0, by omega⟩
theorem lit_PartConf (a b : Int) (w : World) :
    Calls Try.prog 26 #[.agg #[.int .i64 a, .int .i64 b]] w fun e w' => ∃ g, e = .returned (.slice (some ⟨g, 0, none⟩) 2 2) ∧ w.heap.size ≤ g ∧ Sl w' .i64 (some ⟨g, 0, none⟩) 2 (fun i => [a, b].getD i 0) ∧ Below w.heap.size w w' := by
  go_enter Try.func26, Try.ntmps26
  go_wp2
  go_returns
  refine ⟨_, rfl, by simp, .inr ⟨_, 0, rfl, fun i hi => ?_⟩, by go_grown⟩
  match i, hi with
  | 0, _ => simp [go_sem]
  | 1, _ => simp [go_sem]
set_option maxHeartbeats 2000000 in
theorem each_PartConf (p : Option Addr) (n c : Nat) (X Y : Nat → Int) (w : World) (h : Sl2 w p n X Y) (hn : n ≤ 100) (hwf : ∀ i, i < n → (-9223372036854775808 ≤ X i ∧ X i < 9223372036854775808) ∧ (-9223372036854775808 ≤ Y i ∧ Y i < 9223372036854775808)) :
    Calls Try.prog 25 #[.slice p n c, .func (.func 26) #[] #[]] w fun e w' => ∃ v, e = .returned v ∧ w'.ownsInts w.heap.size 3 .i64 v ((n : Int) :: rows2 X Y n) ∧ Below w.heap.size w w' := by
  have HS := Lib.hid h
  have HW := Lib.hid hwf
  have HL := Lib.hid fun (a b : Int) (W : World) => lit_PartConf a b W
  clear h hwf
  go_enter Try.func25, Try.ntmps25
  go_wp2_with fail
  go_loopw [5, 13] (fun ov iv W' => ∃ k : Nat, k ≤ n ∧ iv = .int .i64 k ∧ W'.ownsInts w.heap.size 3 .i64 ov ((n : Int) :: rows2 X Y k) ∧ Below w.heap.size w W') (fun _ iv _ => n - (intOf iv).toNat)
  case atStart => exact ⟨0, by omega, rfl, own_one (Nat.le_refl _) (wfI (by omega) (by omega)), by go_grown⟩
  case round =>
    obtain ⟨k, hk, rfl, ho, hb⟩ := hrel
    have HO := Lib.hid ho
    have HB := Lib.hid hb
    clear ho hb
    by_cases hkn : k < n
    · have hkn' : (k : Int) < n := by omega
      rcases HS.out with h0 | ⟨b, o, rfl, hc⟩
      · omega
      have hlen := rows2_len X Y k
      have d0 := keepc HB.out (hc k hkn).1
      have d1 := keepc HB.out (hc k hkn).2
      have HC := Lib.hid hc
      clear hc
      go_wp2_with fail
      refine (HL.out (X k) (Y k) _).mono ?_; rintro e w2 ⟨g, rfl, hg, hs2, hb2⟩
      have HB1 := Lib.hid (bstep (a := w) (HB.out.alloc HB.out.size _) hb2)
      have HO2 := Lib.hid (own_below (own_below HO.out ((Below.refl _ _).alloc (Nat.le_refl _) _)) hb2)
      have HS2 := Lib.hid hs2
      clear hb2 hs2
      go_wp2_with (at_builtin; refine appN rfl _ _ _ rfl ieN _ _ [X k, Y k] (by rfl) HO2.out (some ⟨g, 0, none⟩) 2 (by rfl) (fun e => by cases e) HS2.out (fun z hz => ?c2) (by simp; omega) HB1.out.size ?c1)
      case c2 =>
        have hw := HW.out k hkn
        simp only [List.mem_cons, List.not_mem_nil, or_false] at hz
        rcases hz with rfl | rfl
        · exact wfI hw.1.1 hw.1.2
        · exact wfI hw.2.1 hw.2.2
      case c1 =>
        intro v' w3 ho3 hb3 _
        have HB3 := Lib.hid (show Below w.heap.size w w3 from HB1.out.trans hb3)
        go_wp2
        exact ⟨⟨k + 1, by omega, by go_num, by simpa [rows2] using ho3, HB3.out⟩, by simp [intOf]; omega⟩
    · obtain rfl : k = n := by omega
      have hkn' : ¬ (k : Int) < k := by omega
      go_wp2
      go_ret
      exact ⟨_, rfl, HO.out, HB.out⟩
theorem lit_Window (a b : Int) (w : World) :
    Calls Try.prog 28 #[.agg #[.int .i64 a, .int .i64 b]] w fun e w' => ∃ g, e = .returned (.slice (some ⟨g, 0, none⟩) 2 2) ∧ w.heap.size ≤ g ∧ Sl w' .i64 (some ⟨g, 0, none⟩) 2 (fun i => [a, b].getD i 0) ∧ Below w.heap.size w w' := by
  go_enter Try.func28, Try.ntmps28
  go_wp2
  go_returns
  refine ⟨_, rfl, by simp, .inr ⟨_, 0, rfl, fun i hi => ?_⟩, by go_grown⟩
  match i, hi with
  | 0, _ => simp [go_sem]
  | 1, _ => simp [go_sem]
set_option maxHeartbeats 2000000 in
theorem each_Window (p : Option Addr) (n c : Nat) (X Y : Nat → Int) (w : World) (h : Sl2 w p n X Y) (hn : n ≤ 100) (hwf : ∀ i, i < n → (-9223372036854775808 ≤ X i ∧ X i < 9223372036854775808) ∧ (-9223372036854775808 ≤ Y i ∧ Y i < 9223372036854775808)) :
    Calls Try.prog 27 #[.slice p n c, .func (.func 28) #[] #[]] w fun e w' => ∃ v, e = .returned v ∧ w'.ownsInts w.heap.size 3 .i64 v ((n : Int) :: rows2 X Y n) ∧ Below w.heap.size w w' := by
  have HS := Lib.hid h
  have HW := Lib.hid hwf
  have HL := Lib.hid fun (a b : Int) (W : World) => lit_Window a b W
  clear h hwf
  go_enter Try.func27, Try.ntmps27
  go_wp2_with fail
  go_loopw [5, 13] (fun ov iv W' => ∃ k : Nat, k ≤ n ∧ iv = .int .i64 k ∧ W'.ownsInts w.heap.size 3 .i64 ov ((n : Int) :: rows2 X Y k) ∧ Below w.heap.size w W') (fun _ iv _ => n - (intOf iv).toNat)
  case atStart => exact ⟨0, by omega, rfl, own_one (Nat.le_refl _) (wfI (by omega) (by omega)), by go_grown⟩
  case round =>
    obtain ⟨k, hk, rfl, ho, hb⟩ := hrel
    have HO := Lib.hid ho
    have HB := Lib.hid hb
    clear ho hb
    by_cases hkn : k < n
    · have hkn' : (k : Int) < n := by omega
      rcases HS.out with h0 | ⟨b, o, rfl, hc⟩
      · omega
      have hlen := rows2_len X Y k
      have d0 := keepc HB.out (hc k hkn).1
      have d1 := keepc HB.out (hc k hkn).2
      have HC := Lib.hid hc
      clear hc
      go_wp2_with fail
      refine (HL.out (X k) (Y k) _).mono ?_; rintro e w2 ⟨g, rfl, hg, hs2, hb2⟩
      have HB1 := Lib.hid (bstep (a := w) (HB.out.alloc HB.out.size _) hb2)
      have HO2 := Lib.hid (own_below (own_below HO.out ((Below.refl _ _).alloc (Nat.le_refl _) _)) hb2)
      have HS2 := Lib.hid hs2
      clear hb2 hs2
      go_wp2_with (at_builtin; refine appN rfl _ _ _ rfl ieN _ _ [X k, Y k] (by rfl) HO2.out (some ⟨g, 0, none⟩) 2 (by rfl) (fun e => by cases e) HS2.out (fun z hz => ?c2) (by simp; omega) HB1.out.size ?c1)
      case c2 =>
        have hw := HW.out k hkn
        simp only [List.mem_cons, List.not_mem_nil, or_false] at hz
        rcases hz with rfl | rfl
        · exact wfI hw.1.1 hw.1.2
        · exact wfI hw.2.1 hw.2.2
      case c1 =>
        intro v' w3 ho3 hb3 _
        have HB3 := Lib.hid (show Below w.heap.size w w3 from HB1.out.trans hb3)
        go_wp2
        exact ⟨⟨k + 1, by omega, by go_num, by simpa [rows2] using ho3, HB3.out⟩, by simp [intOf]; omega⟩
    · obtain rfl : k = n := by omega
      have hkn' : ¬ (k : Int) < k := by omega
      go_wp2
      go_ret
      exact ⟨_, rfl, HO.out, HB.out⟩
theorem lit_ChanConf (a b c d : Int) (w : World) :
    Calls Try.prog 30 #[.agg #[.int .i64 a, .int .i64 b, .int .i64 c, .int .i64 d]] w fun e w' => ∃ g, e = .returned (.slice (some ⟨g, 0, none⟩) 4 4) ∧ w.heap.size ≤ g ∧ Sl w' .i64 (some ⟨g, 0, none⟩) 4 (fun i => [a, b, c, d].getD i 0) ∧ Below w.heap.size w w' := by
  go_enter Try.func30, Try.ntmps30
  go_wp2
  go_returns
  refine ⟨_, rfl, by simp, .inr ⟨_, 0, rfl, fun i hi => ?_⟩, by go_grown⟩
  match i, hi with
  | 0, _ => simp [go_sem]
  | 1, _ => simp [go_sem]
  | 2, _ => simp [go_sem]
  | 3, _ => simp [go_sem]
set_option maxHeartbeats 2000000 in
theorem each_ChanConf (p : Option Addr) (n c : Nat) (X Y Z U : Nat → Int) (w : World) (h : Sl4 w p n X Y Z U) (hn : n ≤ 100) (hwf : ∀ i, i < n → (-9223372036854775808 ≤ X i ∧ X i < 9223372036854775808) ∧ (-9223372036854775808 ≤ Y i ∧ Y i < 9223372036854775808) ∧ (-9223372036854775808 ≤ Z i ∧ Z i < 9223372036854775808) ∧ (-9223372036854775808 ≤ U i ∧ U i < 9223372036854775808)) :
    Calls Try.prog 29 #[.slice p n c, .func (.func 30) #[] #[]] w fun e w' => ∃ v, e = .returned v ∧ w'.ownsInts w.heap.size 3 .i64 v ((n : Int) :: rows4 X Y Z U n) ∧ Below w.heap.size w w' := by
  have HS := Lib.hid h
  have HW := Lib.hid hwf
  have HL := Lib.hid fun (a b c d : Int) (W : World) => lit_ChanConf a b c d W
  clear h hwf
  go_enter Try.func29, Try.ntmps29
  go_wp2_with fail
  go_loopw [5, 13] (fun ov iv W' => ∃ k : Nat, k ≤ n ∧ iv = .int .i64 k ∧ W'.ownsInts w.heap.size 3 .i64 ov ((n : Int) :: rows4 X Y Z U k) ∧ Below w.heap.size w W') (fun _ iv _ => n - (intOf iv).toNat)
  case atStart => exact ⟨0, by omega, rfl, own_one (Nat.le_refl _) (wfI (by omega) (by omega)), by go_grown⟩
  case round =>
    obtain ⟨k, hk, rfl, ho, hb⟩ := hrel
    have HO := Lib.hid ho
    have HB := Lib.hid hb
    clear ho hb
    by_cases hkn : k < n
    · have hkn' : (k : Int) < n := by omega
      rcases HS.out with h0 | ⟨b, o, rfl, hc⟩
      · omega
      have hlen := rows4_len X Y Z U k
      have d0 := keepc HB.out (hc k hkn).1
      have d1 := keepc HB.out (hc k hkn).2.1
      have d2 := keepc HB.out (hc k hkn).2.2.1
      have d3 := keepc HB.out (hc k hkn).2.2.2
      have HC := Lib.hid hc
      clear hc
      go_wp2_with fail
      refine (HL.out (X k) (Y k) (Z k) (U k) _).mono ?_; rintro e w2 ⟨g, rfl, hg, hs2, hb2⟩
      have HB1 := Lib.hid (bstep (a := w) (HB.out.alloc HB.out.size _) hb2)
      have HO2 := Lib.hid (own_below (own_below HO.out ((Below.refl _ _).alloc (Nat.le_refl _) _)) hb2)
      have HS2 := Lib.hid hs2
      clear hb2 hs2
      go_wp2_with (at_builtin; refine appN rfl _ _ _ rfl ieN _ _ [X k, Y k, Z k, U k] (by rfl) HO2.out (some ⟨g, 0, none⟩) 4 (by rfl) (fun e => by cases e) HS2.out (fun z hz => ?c2) (by simp; omega) HB1.out.size ?c1)
      case c2 =>
        have hw := HW.out k hkn
        simp only [List.mem_cons, List.not_mem_nil, or_false] at hz
        rcases hz with rfl | rfl | rfl | rfl
        · exact wfI hw.1.1 hw.1.2
        · exact wfI hw.2.1.1 hw.2.1.2
        · exact wfI hw.2.2.1.1 hw.2.2.1.2
        · exact wfI hw.2.2.2.1 hw.2.2.2.2
      case c1 =>
        intro v' w3 ho3 hb3 _
        have HB3 := Lib.hid (show Below w.heap.size w w3 from HB1.out.trans hb3)
        go_wp2
        exact ⟨⟨k + 1, by omega, by go_num, by simpa [rows4] using ho3, HB3.out⟩, by simp [intOf]; omega⟩
    · obtain rfl : k = n := by omega
      have hkn' : ¬ (k : Int) < k := by omega
      go_wp2
      go_ret
      exact ⟨_, rfl, HO.out, HB.out⟩
end Go.Proofs.Ythgoighpmnecbaa
namespace Go.Proofs.Ythgoighpmnecbaa
open Go.RowKit Go.Proofs.YthgoighpmnecbaaW.PrintWords Go.Proofs.YthgoighpmnecbaaW.PrintMore
set_option linter.unusedVariables false
set_option linter.unusedSimpArgs false
/-- the bytes of a number, of so many -/
def bw : Nat → Int → List Int
  | 0, _ => []
  | k + 1, n => bw k (n / 256) ++ [n % 256]
def pBad (n w : Int) : Bool := decide (w < 1) || decide (4 < w) || decide (256 ^ w.toNat ≤ n)
def pS (n w : Int) : ByteArray := if pBad n w then ⟨#[]⟩ else strOfNums (bw w.toNat n)
def pE (n w : Int) : Int := if pBad n w then 2 else 0
theorem put_f (n w : Int) (h0 : 0 ≤ n) (h1 : n < 4294967296) : PPut.octet_Put.f 8 n w = some (pS n w, pE n w) := by
  have hw : IntKind.u64.wrap n = n := IntWalk.u64_in _ (by omega)
  by_cases a : w < 1
  · simp [PPut.octet_Put.f, PPut.octet_Put.j0, pS, pE, pBad, a]
  by_cases b : 4 < w
  · simp [PPut.octet_Put.f, PPut.octet_Put.j0, pS, pE, pBad, a, b]
  rcases (show w = 1 ∨ w = 2 ∨ w = 3 ∨ w = 4 by omega) with rfl | rfl | rfl | rfl
  · by_cases c : 256 ≤ n
    · have : n / 256 > 0 := by omega
      simp [PPut.octet_Put.f, PPut.octet_Put.j0, pS, pE, pBad, wrap64, hw, shr, this, c, IntKind.bits]
    · have : ¬ n / 256 > 0 := by omega
      simp [PPut.octet_Put.f, PPut.octet_Put.j0, PPut.octet_Put.l0, pS, pE, pBad, wrap64, hw, shr, this, c, IntKind.bits, bw, Int.ediv_ediv]
  · by_cases c : 65536 ≤ n
    · have : n / 65536 > 0 := by omega
      simp [PPut.octet_Put.f, PPut.octet_Put.j0, pS, pE, pBad, wrap64, hw, shr, this, c, IntKind.bits]
    · have : ¬ n / 65536 > 0 := by omega
      simp [PPut.octet_Put.f, PPut.octet_Put.j0, PPut.octet_Put.l0, pS, pE, pBad, wrap64, hw, shr, this, c, IntKind.bits, bw, Int.ediv_ediv]
  · by_cases c : 16777216 ≤ n
    · have : n / 16777216 > 0 := by omega
      simp [PPut.octet_Put.f, PPut.octet_Put.j0, pS, pE, pBad, wrap64, hw, shr, this, c, IntKind.bits]
    · have : ¬ n / 16777216 > 0 := by omega
      simp [PPut.octet_Put.f, PPut.octet_Put.j0, PPut.octet_Put.l0, pS, pE, pBad, wrap64, hw, shr, this, c, IntKind.bits, bw, Int.ediv_ediv]
  · have c : ¬ 4294967296 ≤ n := by omega
    have : ¬ n / 4294967296 > 0 := by omega
    simp [PPut.octet_Put.f, PPut.octet_Put.j0, PPut.octet_Put.l0, pS, pE, pBad, wrap64, hw, shr, this, c, IntKind.bits, bw, Int.ediv_ediv]
theorem str_one (x : Int) (s : List Int) : strOfNums [x] ++ strOfNums s = strOfNums (x :: s) := by
  simp [strOfNums]
  rfl
theorem rput_f (n w : Int) (h0 : 0 ≤ n) (h1 : n < 4294967296) : PBytes.prioryref05_Put.f 8 n w = some (pS n w, pE n w) := by
  by_cases a : w < 1
  · simp [PBytes.prioryref05_Put.f, PBytes.prioryref05_Put.j0, pS, pE, pBad, a]
  by_cases b : 4 < w
  · simp [PBytes.prioryref05_Put.f, PBytes.prioryref05_Put.j0, pS, pE, pBad, a, b]
  have e0 : (⟨#[]⟩ : ByteArray) = strOfNums [] := rfl
  have t1 : n.tmod 256 = n % 256 := Int.tmod_eq_emod_of_nonneg h0
  have d1 : n.tdiv 256 = n / 256 := Int.tdiv_eq_ediv_of_nonneg h0
  have m1 : n / 256 % 4294967296 = n / 256 := by omega
  have t2 : (n / 256).tmod 256 = n / 256 % 256 := Int.tmod_eq_emod_of_nonneg (by omega)
  have d2 : (n / 256).tdiv 256 = n / 65536 := by rw [Int.tdiv_eq_ediv_of_nonneg (by omega)]; omega
  have m2 : n / 65536 % 4294967296 = n / 65536 := by omega
  have t3 : (n / 65536).tmod 256 = n / 65536 % 256 := Int.tmod_eq_emod_of_nonneg (by omega)
  have d3 : (n / 65536).tdiv 256 = n / 16777216 := by rw [Int.tdiv_eq_ediv_of_nonneg (by omega)]; omega
  have m3 : n / 16777216 % 4294967296 = n / 16777216 := by omega
  have t4 : (n / 16777216).tmod 256 = n / 16777216 % 256 := Int.tmod_eq_emod_of_nonneg (by omega)
  have d4 : (n / 16777216).tdiv 256 = 0 := by rw [Int.tdiv_eq_ediv_of_nonneg (by omega)]; omega
  rcases (show w = 1 ∨ w = 2 ∨ w = 3 ∨ w = 4 by omega) with rfl | rfl | rfl | rfl
  · by_cases c : 256 ≤ n
    · have : ¬ n / 256 = 0 := by omega
      simp [PBytes.prioryref05_Put.f, PBytes.prioryref05_Put.j0, PBytes.prioryref05_Put.l0, pS, pE, pBad, wrap64, this, c, t1, d1, m1, t2, d2, m2, t3, d3, m3, t4, d4, e0, str_one, strOfNums_size]
    · have : n / 256 = 0 := by omega
      simp [PBytes.prioryref05_Put.f, PBytes.prioryref05_Put.j0, PBytes.prioryref05_Put.l0, pS, pE, pBad, wrap64, this, c, t1, d1, m1, t2, d2, m2, t3, d3, m3, t4, d4, e0, str_one, strOfNums_size, bw, Int.ediv_ediv]
  · by_cases c : 65536 ≤ n
    · have : ¬ n / 65536 = 0 := by omega
      simp [PBytes.prioryref05_Put.f, PBytes.prioryref05_Put.j0, PBytes.prioryref05_Put.l0, pS, pE, pBad, wrap64, this, c, t1, d1, m1, t2, d2, m2, t3, d3, m3, t4, d4, e0, str_one, strOfNums_size]
    · have : n / 65536 = 0 := by omega
      simp [PBytes.prioryref05_Put.f, PBytes.prioryref05_Put.j0, PBytes.prioryref05_Put.l0, pS, pE, pBad, wrap64, this, c, t1, d1, m1, t2, d2, m2, t3, d3, m3, t4, d4, e0, str_one, strOfNums_size, bw, Int.ediv_ediv]
  · by_cases c : 16777216 ≤ n
    · have : ¬ n / 16777216 = 0 := by omega
      simp [PBytes.prioryref05_Put.f, PBytes.prioryref05_Put.j0, PBytes.prioryref05_Put.l0, pS, pE, pBad, wrap64, this, c, t1, d1, m1, t2, d2, m2, t3, d3, m3, t4, d4, e0, str_one, strOfNums_size]
    · have : n / 16777216 = 0 := by omega
      simp [PBytes.prioryref05_Put.f, PBytes.prioryref05_Put.j0, PBytes.prioryref05_Put.l0, pS, pE, pBad, wrap64, this, c, t1, d1, m1, t2, d2, m2, t3, d3, m3, t4, d4, e0, str_one, strOfNums_size, bw, Int.ediv_ediv]
  · have c : ¬ 4294967296 ≤ n := by omega
    simp [PBytes.prioryref05_Put.f, PBytes.prioryref05_Put.j0, PBytes.prioryref05_Put.l0, pS, pE, pBad, wrap64, c, t1, d1, m1, t2, d2, m2, t3, d3, m3, t4, d4, e0, str_one, strOfNums_size, bw, Int.ediv_ediv]
theorem put_any (n w : Int) (h0 : 0 ≤ n) (h1 : n < 4294967296) (W : World) :
    Calls Try.prog 24 #[.int .u32 n, .int .i64 w] W fun e W' => e = .returned (.tuple #[.string (pS n w), .int .i64 (pE n w)]) ∧ Below W.heap.size W W' :=
  PPut.octet_Put.calls 8 n w _ _ W (put_f n w h0 h1)
theorem rput_any (n w : Int) (h0 : 0 ≤ n) (h1 : n < 4294967296) (W : World) :
    Calls Try.prog 65 #[.int .u32 n, .int .i64 w] W fun e W' => e = .returned (.tuple #[.string (pS n w), .int .i64 (pE n w)]) ∧ Below W.heap.size W W' :=
  PBytes.prioryref05_Put.calls 8 n w _ _ W (rput_f n w h0 h1)
end Go.Proofs.Ythgoighpmnecbaa
namespace Go.Proofs.Ythgoighpmnecbaa
open Go.RowKit Go.Proofs.YthgoighpmnecbaaW.PrintWords Go.Proofs.YthgoighpmnecbaaW.PrintMore
set_option linter.unusedVariables false
set_option linter.unusedSimpArgs false
/-- a row of int in a block whose type is seen -/
def RowI (w : World) (g L : Nat) (X : Nat → Int) : Prop := ∃ cur fr, w.heap[g]? = some (.cells cur 3 fr) ∧ ∀ i, i < L → cur[i]? = some (.int .i64 (X i))
theorem RowI.kt {w w' : World} {g L : Nat} {X : Nat → Int} (h : RowI w g L X) (k : KT w w') : RowI w' g L X := by
  obtain ⟨cur, fr, h1, h2⟩ := h
  exact ⟨cur, fr, k _ _ _ _ h1 (by decide) (by decide), h2⟩
theorem RowI.below {w w' : World} {g L : Nat} {X : Nat → Int} (h : RowI w g L X) (k : Below w.heap.size w w') : RowI w' g L X := h.kt (KT.of_below k)
theorem own_rowI {w : World} {B : Nat} {v : Value} {zs : List Int} (h : w.ownsInts B 3 .i64 v zs) (hz : zs ≠ []) : ∃ g c, v = .slice (some ⟨g, 0, none⟩) zs.length c ∧ RowI w g zs.length (fun i => zs.getD i 0) := by
  obtain ⟨⟨_, h⟩, _⟩ := h
  rcases h with ⟨rfl, h0⟩ | ⟨g, cap, cur, rfl, hb, hg, hn, hm, hs, ht⟩
  · exact absurd (List.length_eq_zero_iff.1 h0) hz
  · refine ⟨g, cap, rfl, cur, _, hg, fun i hi => ?_⟩
    have h1 : (cur.toList.take (zs.length * 1))[i]? = (zs.map (Value.int .i64))[i]? := by rw [ht]
    rw [List.getElem?_take_of_lt (by omega), List.getElem?_map, List.getElem?_eq_getElem hi] at h1
    show cur[i]? = some (Value.int .i64 (zs.getD i 0))
    rw [List.getD_eq_getElem?_getD, List.getElem?_eq_getElem hi]
    simpa using h1
theorem bld_below {B b : Nat} {bs : List Value} {w w' : World} (h : Lib.IsBuilder 51 5 B b bs w) (hb : Below w.heap.size w w') : Lib.IsBuilder 51 5 B b bs w' := by
  have key : ∀ p, Lib.BuilderAt 51 5 B b p bs w → Lib.BuilderAt 51 5 B b p bs w' := by
    rintro p ⟨h1, v, h2, h3, h4⟩
    exact ⟨h1, v, bk_below h2 hb, h3.kept (grown_below hb none) (by cases v.ownBlock <;> simp), h4⟩
  exact h.imp (key _) (key _)
/-- how wide a number goes -/
def wOf (wide : Int) (k : Nat) : Int := if 0 < wide ∧ ((k % 2 : Nat) : Int) = wide then 2 else 1
def catP (X : Nat → Int) (wide : Int) : Nat → ByteArray
  | 0 => ByteArray.empty
  | k + 1 => catP X wide k ++ pS (X k) (wOf wide k)
theorem pS_size2 (n w : Int) (hw : w = 1 ∨ w = 2) : (pS n w).size ≤ 2 := by
  unfold pS
  split
  · exact Nat.zero_le _
  · rw [strOfNums_size]
    rcases hw with rfl | rfl
    · simp [bw]
    · simp [bw]
theorem wOf_or (wide : Int) (k : Nat) : wOf wide k = 1 ∨ wOf wide k = 2 := by unfold wOf; split; exact .inr rfl; exact .inl rfl
theorem catP_size (X : Nat → Int) (wide : Int) : ∀ k, (catP X wide k).size ≤ 2 * k
  | 0 => Nat.zero_le _
  | k + 1 => by
    have h1 := catP_size X wide k
    have h2 := pS_size2 (X k) _ (wOf_or wide k)
    simp only [catP, ByteArray.size_append]
    omega
theorem strCells_app (s t : ByteArray) : Lib.strCells (s ++ t) = Lib.strCells s ++ Lib.strCells t := by
  simp [Lib.strCells, ByteArray.data_append]
set_option maxHeartbeats 2000000 in
theorem cput_any (B b : Nat) (s : ByteArray) (g L c : Nat) (X : Nat → Int) (wide : Int) (w : World) (hb : Lib.IsBuilder 51 5 B b (Lib.strCells s) w) (hR : RowI w g L X) (hx : ∀ i, i < L → 0 ≤ X i ∧ X i < 4294967296) (hL : L ≤ 1000) (hs : s.size ≤ 100000) (hBw : B ≤ w.heap.size) (hwd : wide = 0 ∨ wide = 1) :
    Calls Try.prog 23 #[.slice (some ⟨g, 0, none⟩) L c, .int .i64 wide, .pointer (some ⟨b, 0, none⟩)] w fun e w' => e = .returned (.tuple #[]) ∧ Lib.IsBuilder 51 5 B b (Lib.strCells (s ++ catP X wide L)) w' ∧ Below B w w' ∧ KT w w' := by
  have HBD := Lib.hid hb
  have HR := Lib.hid hR
  have HX := Lib.hid hx
  have HPUT := Lib.hid fun (n v : Int) (W : World) (h0 : 0 ≤ n) (h1 : n < 4294967296) => put_any n v h0 h1 W
  have HWR := Lib.hid fun (bs : List Value) (t : ByteArray) (W : World) (h : Lib.IsBuilder 51 5 B b bs W) (h1 : bs.length + t.size ≤ 140737488355328) (h2 : B ≤ W.heap.size) => bwrite_any B b bs t W h h1 h2
  clear hb hR hx
  go_enter Try.func23, Try.ntmps23
  go_wp2_with fail
  go_loopw [12] (fun iv W' => ∃ k : Nat, k ≤ L ∧ iv = .int .i64 k ∧ Lib.IsBuilder 51 5 B b (Lib.strCells (s ++ catP X wide k)) W' ∧ RowI W' g L X ∧ Below B w W' ∧ KT w W') (fun iv _ => L - (intOf iv).toNat)
  case atStart =>
    refine ⟨0, by omega, rfl, ?_, HR.out, Below.refl _ _, KT.refl _⟩
    have e : s ++ catP X wide 0 = s := by simp [catP]
    rw [e]
    exact HBD.out
  case round =>
    obtain ⟨k, hk, rfl, hbd, hr, hbl, hkt⟩ := hrel
    have HBD1 := Lib.hid hbd
    have HR1 := Lib.hid hr
    have HB1 := Lib.hid hbl
    have HK1 := Lib.hid hkt
    clear hbd hr hbl hkt
    by_cases hkL : k < L
    · have hkL' : (k : Int) < L := by omega
      obtain ⟨cur, fr, hcur, hcc⟩ := HR1.out
      have d0 : wr.cell? ⟨g, k, none⟩ = some (.int .i64 (X k)) := (Lib.cell_of_heap hcur k).trans (hcc k hkL)
      obtain ⟨hx0, hx1⟩ := HX.out k hkL
      have q1 : IntKind.u32.wrap (X k) = X k := by rw [IntKind.wrap_u32]; omega
      have hsz := catP_size X wide k
      clear hcur hcc
      rcases hwd with rfl | rfl
      · have hwo : wOf 0 k = 1 := by simp [wOf]
        go_wp2_with fail
        refine (HPUT.out (X k) 1 _ hx0 hx1).mono ?_; rintro e w2 ⟨rfl, hb2⟩
        have HBD2 := Lib.hid (bld_below HBD1.out hb2)
        have HR2 := Lib.hid (HR1.out.below hb2)
        have HB2 := Lib.hid (HB1.out.trans ⟨hb2.os, hb2.tape, hb2.output, hb2.size, fun i hi => hb2.block i (Nat.lt_of_lt_of_le hi (Nat.le_trans hBw HB1.out.size))⟩)
        have HK2 := Lib.hid (HK1.out.trans (KT.of_below hb2))
        have hps := pS_size2 (X k) 1 (by first | exact .inl rfl | exact .inr rfl)
        clear hb2
        go_wp2_with fail
        refine (HWR.out _ _ _ HBD2.out ?_ (Nat.le_trans hBw HB2.out.size)).mono ?_
        · rw [Lib.strCells_length, ByteArray.size_append]; omega
        rintro e w3 ⟨rfl, h3, hb3, hk3⟩
        have H3 := Lib.hid h3
        have HB3 := Lib.hid (HB2.out.trans hb3)
        have HK3 := Lib.hid (HK2.out.trans hk3)
        have HR3 := Lib.hid (HR2.out.kt hk3)
        clear h3 hb3 hk3
        go_wp2
        refine ⟨⟨k + 1, by omega, by go_num, .inr ?_, HR3.out, HB3.out, HK3.out⟩, by simp [intOf]; omega⟩
        have e : s ++ catP X 0 (k + 1) = (s ++ catP X 0 k) ++ pS (X k) 1 := by simp only [catP, hwo, ByteArray.append_assoc]
        rw [e, strCells_app]
        exact H3.out
      · have ht : (k : Int).tmod 2 = ((k % 2 : Nat) : Int) := by rw [Int.tmod_eq_emod_of_nonneg (by omega)]; omega
        by_cases hm : k % 2 = 1
        · have ht2 : (k : Int).tmod 2 = 1 := by omega
          have hwo : wOf 1 k = 2 := by simp [wOf, hm]
          clear ht
          go_wp2_with fail
          refine (HPUT.out (X k) 2 _ hx0 hx1).mono ?_; rintro e w2 ⟨rfl, hb2⟩
          have HBD2 := Lib.hid (bld_below HBD1.out hb2)
          have HR2 := Lib.hid (HR1.out.below hb2)
          have HB2 := Lib.hid (HB1.out.trans ⟨hb2.os, hb2.tape, hb2.output, hb2.size, fun i hi => hb2.block i (Nat.lt_of_lt_of_le hi (Nat.le_trans hBw HB1.out.size))⟩)
          have HK2 := Lib.hid (HK1.out.trans (KT.of_below hb2))
          have hps := pS_size2 (X k) 2 (by first | exact .inl rfl | exact .inr rfl)
          clear hb2
          go_wp2_with fail
          refine (HWR.out _ _ _ HBD2.out ?_ (Nat.le_trans hBw HB2.out.size)).mono ?_
          · rw [Lib.strCells_length, ByteArray.size_append]; omega
          rintro e w3 ⟨rfl, h3, hb3, hk3⟩
          have H3 := Lib.hid h3
          have HB3 := Lib.hid (HB2.out.trans hb3)
          have HK3 := Lib.hid (HK2.out.trans hk3)
          have HR3 := Lib.hid (HR2.out.kt hk3)
          clear h3 hb3 hk3
          go_wp2
          refine ⟨⟨k + 1, by omega, by go_num, .inr ?_, HR3.out, HB3.out, HK3.out⟩, by simp [intOf]; omega⟩
          have e : s ++ catP X 1 (k + 1) = (s ++ catP X 1 k) ++ pS (X k) 2 := by simp only [catP, hwo, ByteArray.append_assoc]
          rw [e, strCells_app]
          exact H3.out
        · have ht2 : (k : Int).tmod 2 = 0 := by omega
          have hwo : wOf 1 k = 1 := by simp [wOf, show k % 2 = 0 by omega]
          clear ht
          go_wp2_with fail
          refine (HPUT.out (X k) 1 _ hx0 hx1).mono ?_; rintro e w2 ⟨rfl, hb2⟩
          have HBD2 := Lib.hid (bld_below HBD1.out hb2)
          have HR2 := Lib.hid (HR1.out.below hb2)
          have HB2 := Lib.hid (HB1.out.trans ⟨hb2.os, hb2.tape, hb2.output, hb2.size, fun i hi => hb2.block i (Nat.lt_of_lt_of_le hi (Nat.le_trans hBw HB1.out.size))⟩)
          have HK2 := Lib.hid (HK1.out.trans (KT.of_below hb2))
          have hps := pS_size2 (X k) 1 (by first | exact .inl rfl | exact .inr rfl)
          clear hb2
          go_wp2_with fail
          refine (HWR.out _ _ _ HBD2.out ?_ (Nat.le_trans hBw HB2.out.size)).mono ?_
          · rw [Lib.strCells_length, ByteArray.size_append]; omega
          rintro e w3 ⟨rfl, h3, hb3, hk3⟩
          have H3 := Lib.hid h3
          have HB3 := Lib.hid (HB2.out.trans hb3)
          have HK3 := Lib.hid (HK2.out.trans hk3)
          have HR3 := Lib.hid (HR2.out.kt hk3)
          clear h3 hb3 hk3
          go_wp2
          refine ⟨⟨k + 1, by omega, by go_num, .inr ?_, HR3.out, HB3.out, HK3.out⟩, by simp [intOf]; omega⟩
          have e : s ++ catP X 1 (k + 1) = (s ++ catP X 1 k) ++ pS (X k) 1 := by simp only [catP, hwo, ByteArray.append_assoc]
          rw [e, strCells_app]
          exact H3.out
    · obtain rfl : k = L := by omega
      have hkL' : ¬ (k : Int) < k := by omega
      go_wp2
      go_end0
      exact ⟨rfl, HBD1.out, HB1.out, HK1.out⟩
end Go.Proofs.Ythgoighpmnecbaa
namespace Go.Proofs.Ythgoighpmnecbaa
open Go.RowKit
set_option linter.unusedVariables false
set_option linter.unusedSimpArgs false
def xP (C : Cfg) : List Int := (C.nP : Int) :: rows2 C.q C.s C.nP
def xW (C : Cfg) : List Int := (C.nW : Int) :: rows2 C.wp C.wt C.nW
def xC (C : Cfg) : List Int := (C.nC : Int) :: rows4 C.cf C.ct C.cc C.cw C.nC
def catL (l : List Int) (wide : Int) : ByteArray := catP (fun i => l.getD i 0) wide l.length
/-- a configuration's bytes -/
def confS (C : Cfg) : ByteArray := (((⟨#[80, 82, 49]⟩ : ByteArray) ++ catL (xP C) 1) ++ catL (xW C) 0) ++ catL (xC C) 0
set_option maxHeartbeats 4000000 in
theorem cfput_bad (C : Cfg) (ly : Lay) (w : World) (hI : IsC w C ly) (hN : C.nP ≤ 1000000 ∧ C.nW ≤ 1000000 ∧ C.nC ≤ 1000000) (hok : ¬ CkOk C) :
    Calls Try.prog 11 #[.agg (cfgV C ly)] w fun e w' => e = .returned (.tuple #[.string ⟨#[]⟩, .int .i64 (ckE C)]) ∧ Below w.heap.size w w' := by
  have hne : (ckE C == 0) = false := beq_eq_false_iff_ne.2 (by rcases ckE_cases C with ⟨h', _⟩ | ⟨_, h' | h'⟩ <;> first | exact absurd h' hok | omega)
  have hne2 : (ckE C != 0) = true := by simp only [bne, hne]; rfl
  have HK := Lib.hid fun (W : World) (h : IsC W C ly) => check_any C ly W h hN
  have HI := Lib.hid hI
  clear hI hN hok
  generalize ckE C = er at *
  obtain ⟨pP, cP, pW, cW, pC, cC⟩ := ly
  unfold cfgV at *
  simp only at *
  go_enter Try.func11, Try.ntmps11
  go_wp2_with fail
  refine (HK.out _ (by exact HI.out.below (by go_grown))).mono ?_; rintro e w1 ⟨rfl, hb⟩
  go_wp2
  go_ret2
  exact ⟨rfl, bstep (by go_grown) hb⟩
theorem rows2_mem {X Y : Nat → Int} {z : Int} : ∀ k, z ∈ rows2 X Y k → ∃ i, i < k ∧ (z = X i ∨ z = Y i)
  | 0, h => by simp [rows2] at h
  | k + 1, h => by
    simp only [rows2, List.mem_append, List.mem_cons, List.not_mem_nil, or_false] at h
    rcases h with h | h
    · obtain ⟨i, h1, h2⟩ := rows2_mem k h
      exact ⟨i, by omega, h2⟩
    · exact ⟨k, by omega, h⟩
theorem getD_bd {l : List Int} (h : ∀ z ∈ l, 0 ≤ z ∧ z < 4294967296) : ∀ i, i < l.length → 0 ≤ l.getD i 0 ∧ l.getD i 0 < 4294967296 := fun i hi => by
  rw [List.getD_eq_getElem?_getD, List.getElem?_eq_getElem hi]
  exact h _ (List.getElem_mem hi)
theorem xP_bd {C : Cfg} (h : NumOk C) : ∀ i, i < (xP C).length → 0 ≤ (xP C).getD i 0 ∧ (xP C).getD i 0 < 4294967296 := by
  refine getD_bd fun z hz => ?_
  have hN := h.N
  rcases List.mem_cons.1 hz with rfl | hz
  · omega
  · obtain ⟨i, hi, e⟩ := rows2_mem _ hz
    have := h.P hi
    rcases e with rfl | rfl <;> omega
theorem xP_len {C : Cfg} (h : NumOk C) : (xP C).length ≤ 17 := by
  have hN := h.N
  simp only [xP, List.length_cons, rows2_len]
  omega
theorem xW_bd {C : Cfg} (h : NumOk C) : ∀ i, i < (xW C).length → 0 ≤ (xW C).getD i 0 ∧ (xW C).getD i 0 < 4294967296 := by
  refine getD_bd fun z hz => ?_
  have hN := h.N
  rcases List.mem_cons.1 hz with rfl | hz
  · omega
  · obtain ⟨i, hi, e⟩ := rows2_mem _ hz
    have := h.W hi
    rcases e with rfl | rfl <;> omega
theorem xW_len {C : Cfg} (h : NumOk C) : (xW C).length ≤ 65 := by
  have hN := h.N
  simp only [xW, List.length_cons, rows2_len]
  omega
theorem rows4_mem {X Y Z U : Nat → Int} {z : Int} : ∀ k, z ∈ rows4 X Y Z U k → ∃ i, i < k ∧ (z = X i ∨ z = Y i ∨ z = Z i ∨ z = U i)
  | 0, h => by simp [rows4] at h
  | k + 1, h => by
    simp only [rows4, List.mem_append, List.mem_cons, List.not_mem_nil, or_false] at h
    rcases h with h | h
    · obtain ⟨i, h1, h2⟩ := rows4_mem k h
      exact ⟨i, by omega, h2⟩
    · exact ⟨k, by omega, h⟩
theorem xC_bd {C : Cfg} (h : NumOk C) : ∀ i, i < (xC C).length → 0 ≤ (xC C).getD i 0 ∧ (xC C).getD i 0 < 4294967296 := by
  refine getD_bd fun z hz => ?_
  have hN := h.N
  rcases List.mem_cons.1 hz with rfl | hz
  · omega
  · obtain ⟨i, hi, e⟩ := rows4_mem _ hz
    have := h.C hi
    rcases e with rfl | rfl | rfl | rfl <;> omega
theorem xC_len {C : Cfg} (h : NumOk C) : (xC C).length ≤ 65 := by
  have hN := h.N
  simp only [xC, List.length_cons, rows4_len]
  omega
theorem bld_new {w : World} {B : Nat} (hB : B ≤ w.heap.size) : Lib.IsBuilder 51 5 B w.heap.size (Lib.strCells ByteArray.empty) (w.alloc (.cells #[.pointer none, .slice none 0 0] 51)) :=
  .inl ⟨hB, .slice none 0 0, bk_new w _, ⟨rfl, .inl ⟨rfl, rfl⟩⟩, by simp [Value.ownBlock]⟩
set_option maxHeartbeats 8000000 in
theorem cfput_ok (C : Cfg) (ly : Lay) (w : World) (hI : IsC w C ly) (hN : C.nP ≤ 1000000 ∧ C.nW ≤ 1000000 ∧ C.nC ≤ 1000000) (hok : CkOk C) :
    Calls Try.prog 11 #[.agg (cfgV C ly)] w fun e w' => e = .returned (.tuple #[.string (confS C), .int .i64 0]) ∧ Below w.heap.size w w' := by
  have hck := fun (W : World) (h : IsC W C ly) => check_any C ly W h hN
  rw [ckE_ok hok] at hck
  have HK := Lib.hid hck
  have HI := Lib.hid hI
  have HNUM := Lib.hid hok.1
  have hNN := hok.1.N
  have hmf : ∀ (fn : Fn) (first cap : Array Value) (w : World), (Instr.makeFunc fn first cap).run Try.prog w = .ok (.func fn first cap) w := fun _ _ _ _ => rfl
  clear hI hN hok hck
  obtain ⟨pP, cP, pW, cW, pC, cC⟩ := ly
  unfold cfgV at *
  simp only at *
  go_enter Try.func11, Try.ntmps11
  go_wp2_with fail
  refine (HK.out _ (by exact HI.out.below (by go_grown))).mono ?_; rintro e w1 ⟨rfl, hb⟩
  have HB := Lib.hid (bstep (a := w) (by go_grown) hb)
  have HV := Lib.hid (bk_below (bk_new w (.cells #[.slice pP C.nP cP, .slice pW C.nW cW, .slice pC C.nC cC] 26)) hb)
  clear hb
  go_wp2_with fail
  refine (bwrite_any w.heap.size _ _ _ _ (bld_new HB.out.size) (by decide) (by simp; exact Nat.le_trans HB.out.size (Nat.le_succ _))).mono ?_
  rintro e w2 ⟨rfl, h2, hb2, hk2⟩
  have H2 := Lib.hid (show Lib.IsBuilder 51 5 w.heap.size w1.heap.size (Lib.strCells (⟨#[80, 82, 49]⟩ : ByteArray)) w2 from .inr h2)
  have HB2 := Lib.hid ((HB.out.alloc (HB.out.size) _).trans hb2)
  have HV2 := Lib.hid (hk2 _ _ _ _ (bk_alloc HV.out _) (by decide) (by decide))
  have HI2 := Lib.hid (HI.out.below HB2.out)
  have c0 : w2.cell? ⟨w.heap.size, 0, none⟩ = some (.slice pP C.nP cP) := (bk_cell HV2.out 0).trans rfl
  clear h2 hb2 hk2
  go_wp2_with fail
  clear c0
  refine (each_PartConf pP C.nP cP C.q C.s w2 HI2.out.P (by omega) (fun i hi => by have := HNUM.out.P hi; omega)).mono ?_
  rintro e w3 ⟨v, rfl, ho3, hb3⟩
  obtain ⟨g3, cc3, rfl, hr3⟩ := own_rowI (zs := xP C) ho3 (by simp [xP])
  have H3 := Lib.hid (bld_below H2.out hb3)
  have HB3 := Lib.hid (bstep HB2.out hb3)
  have HV3 := Lib.hid (bk_below HV2.out hb3)
  have HR3 := Lib.hid hr3
  have hl3 := xP_len HNUM.out
  have hs0 : (⟨#[80, 82, 49]⟩ : ByteArray).size = 3 := rfl
  clear ho3 hb3 hr3
  go_wp2_with fail
  refine (cput_any w.heap.size w1.heap.size _ g3 _ cc3 _ 1 w3 H3.out HR3.out (xP_bd HNUM.out) (by omega) (by omega) HB3.out.size (.inr rfl)).mono ?_
  rintro e w4 ⟨rfl, hd4, hb4, hk4⟩
  have hc4 := catP_size (fun i => (xP C).getD i 0) 1 (xP C).length
  have H4 := Lib.hid hd4
  have HB4 := Lib.hid (HB3.out.trans hb4)
  have HV4 := Lib.hid (hk4 _ _ _ _ HV3.out (by decide) (by decide))
  have HI4 := Lib.hid (HI.out.below HB4.out)
  have c1 : w4.cell? ⟨w.heap.size, 1, none⟩ = some (.slice pW C.nW cW) := (bk_cell HV4.out 1).trans rfl
  clear hd4 hb4 hk4
  go_wp2_with fail
  clear c1
  refine (each_Window pW C.nW cW C.wp C.wt w4 HI4.out.W (by omega) (fun i hi => by have := HNUM.out.W hi; omega)).mono ?_
  rintro e w5 ⟨v, rfl, ho5, hb5⟩
  obtain ⟨g5, cc5, rfl, hr5⟩ := own_rowI (zs := xW C) ho5 (by simp [xW])
  have H5 := Lib.hid (bld_below H4.out hb5)
  have HB5 := Lib.hid (bstep HB4.out hb5)
  have HV5 := Lib.hid (bk_below HV4.out hb5)
  have HR5 := Lib.hid hr5
  have hl5 := xW_len HNUM.out
  clear ho5 hb5 hr5
  go_wp2_with fail
  refine (cput_any w.heap.size w1.heap.size _ g5 _ cc5 _ 0 w5 H5.out HR5.out (xW_bd HNUM.out) (by omega) (by rw [ByteArray.size_append]; omega) HB5.out.size (.inl rfl)).mono ?_
  rintro e w6 ⟨rfl, hd6, hb6, hk6⟩
  have hc6 := catP_size (fun i => (xW C).getD i 0) 0 (xW C).length
  have H6 := Lib.hid hd6
  have HB6 := Lib.hid (HB5.out.trans hb6)
  have HV6 := Lib.hid (hk6 _ _ _ _ HV5.out (by decide) (by decide))
  have HI6 := Lib.hid (HI.out.below HB6.out)
  have c2 : w6.cell? ⟨w.heap.size, 2, none⟩ = some (.slice pC C.nC cC) := (bk_cell HV6.out 2).trans rfl
  clear hd6 hb6 hk6
  go_wp2_with fail
  clear c2
  refine (each_ChanConf pC C.nC cC C.cf C.ct C.cc C.cw w6 HI6.out.C (by omega) (fun i hi => by have := HNUM.out.C hi; omega)).mono ?_
  rintro e w7 ⟨v, rfl, ho7, hb7⟩
  obtain ⟨g7, cc7, rfl, hr7⟩ := own_rowI (zs := xC C) ho7 (by simp [xC])
  have H7 := Lib.hid (bld_below H6.out hb7)
  have HB7 := Lib.hid (bstep HB6.out hb7)
  have HR7 := Lib.hid hr7
  have hl7 := xC_len HNUM.out
  clear ho7 hb7 hr7
  go_wp2_with fail
  refine (cput_any w.heap.size w1.heap.size _ g7 _ cc7 _ 0 w7 H7.out HR7.out (xC_bd HNUM.out) (by omega) (by rw [ByteArray.size_append, ByteArray.size_append]; omega) HB7.out.size (.inl rfl)).mono ?_
  rintro e w8 ⟨rfl, hd8, hb8, hk8⟩
  have H8 := Lib.hid (show Lib.IsBuilder 51 5 w.heap.size w1.heap.size (Lib.byteCells (confS C).data.toList) w8 from hd8)
  have HB8 := Lib.hid (HB7.out.trans hb8)
  clear hd8 hb8 hk8
  go_wp2_with fail
  refine (bstring_any w.heap.size w1.heap.size _ w8 H8.out (by simp [confS, ByteArray.data_append])).mono ?_
  rintro e w9 ⟨rfl, hb9⟩
  have HB9 := Lib.hid (HB8.out.trans hb9)
  clear hb9
  go_wp2
  go_ret2
  exact ⟨by simp, HB9.out⟩
end Go.Proofs.Ythgoighpmnecbaa
namespace Go.Proofs.Ythgoighpmnecbaa
open Go.RowKit
set_option linter.unusedVariables false
set_option linter.unusedSimpArgs false
theorem rnm_any (n v : Int) (W : World) (h0 : 0 ≤ n) (h1 : n < 4294967296) :
    Calls Try.prog 57 #[.int .i64 n, .int .i64 v] W fun e W' => e = .returned (.string (pS n v)) ∧ Below W.heap.size W W' := by
  refine PBytes.prioryref06_num.calls 8 n v _ W ?_
  unfold PBytes.prioryref06_num.f
  rw [show n % 4294967296 = n by omega, rput_f n v h0 h1]
  rfl
/-- what was put of pairs, of fours -/
def ac2 (S : ByteArray) (X Y : Nat → Int) (a : Int) : Nat → ByteArray
  | 0 => S
  | k + 1 => (ac2 S X Y a k ++ pS (X k) a) ++ pS (Y k) 1
def ac4 (S : ByteArray) (X Y Z U : Nat → Int) : Nat → ByteArray
  | 0 => S
  | k + 1 => (((ac4 S X Y Z U k ++ pS (X k) 1) ++ pS (Y k) 1) ++ pS (Z k) 1) ++ pS (U k) 1
theorem catP_ext {X X' : Nat → Int} {wide : Int} : ∀ k, (∀ i, i < k → X i = X' i) → catP X wide k = catP X' wide k
  | 0, _ => rfl
  | k + 1, h => by simp only [catP]; rw [catP_ext k (fun i hi => h i (by omega)), h k (by omega)]
theorem rows2_get (X Y : Nat → Int) : ∀ k i, i < k → (rows2 X Y k).getD (i * 2) 0 = X i ∧ (rows2 X Y k).getD (i * 2 + 1) 0 = Y i
  | 0, i, h => by omega
  | k + 1, i, h => by
    have hl := rows2_len X Y k
    simp only [rows2, List.getD_eq_getElem?_getD]
    by_cases e : i < k
    · have ih := rows2_get X Y k i e
      simp only [List.getD_eq_getElem?_getD] at ih
      rw [List.getElem?_append_left (by omega), List.getElem?_append_left (by omega)]
      exact ih
    · obtain rfl : i = k := by omega
      rw [List.getElem?_append_right (by omega), List.getElem?_append_right (by omega), hl]
      simp
theorem rows4_get (X Y Z U : Nat → Int) : ∀ k i, i < k → (rows4 X Y Z U k).getD (i * 4) 0 = X i ∧ (rows4 X Y Z U k).getD (i * 4 + 1) 0 = Y i ∧ (rows4 X Y Z U k).getD (i * 4 + 2) 0 = Z i ∧ (rows4 X Y Z U k).getD (i * 4 + 3) 0 = U i
  | 0, i, h => by omega
  | k + 1, i, h => by
    have hl := rows4_len X Y Z U k
    simp only [rows4, List.getD_eq_getElem?_getD]
    by_cases e : i < k
    · have ih := rows4_get X Y Z U k i e
      simp only [List.getD_eq_getElem?_getD] at ih
      rw [List.getElem?_append_left (by omega), List.getElem?_append_left (by omega), List.getElem?_append_left (by omega), List.getElem?_append_left (by omega)]
      exact ih
    · obtain rfl : i = k := by omega
      rw [List.getElem?_append_right (by omega), List.getElem?_append_right (by omega), List.getElem?_append_right (by omega), List.getElem?_append_right (by omega), hl]
      simp
theorem cons_get (n : Int) (l : List Int) (i : Nat) : (n :: l).getD (i + 1) 0 = l.getD i 0 := by simp [List.getD_eq_getElem?_getD]
theorem ac2_cat (S : ByteArray) (X Y : Nat → Int) (m : Int) (wide : Int) (hw : wide = 0 ∨ wide = 1) (N : Nat) : ∀ k, k ≤ N → ac2 (S ++ pS m 1) X Y (1 + wide) k = S ++ catP (fun i => (m :: rows2 X Y N).getD i 0) wide (k * 2 + 1)
  | 0, _ => by
    have e : wOf wide 0 = 1 := by rcases hw with rfl | rfl <;> simp [wOf]
    simp [ac2, catP, e]
  | k + 1, h => by
    have ih := ac2_cat S X Y m wide hw N k (by omega)
    have g := rows2_get X Y N k (by omega)
    have e1 : wOf wide (k * 2 + 1) = 1 + wide := by
      have hm : (k * 2 + 1) % 2 = 1 := by omega
      rcases hw with rfl | rfl <;> simp [wOf, hm]
    have e2 : wOf wide (k * 2 + 1 + 1) = 1 := by
      have hm : (k * 2 + 1 + 1) % 2 = 0 := by omega
      rcases hw with rfl | rfl <;> simp [wOf, hm]
    rw [show (k + 1) * 2 + 1 = k * 2 + 1 + 1 + 1 by omega]
    simp only [ac2, catP, ih, e1, e2, cons_get, g.1, g.2, ByteArray.append_assoc]
theorem ac4_cat (S : ByteArray) (X Y Z U : Nat → Int) (m : Int) (N : Nat) : ∀ k, k ≤ N → ac4 (S ++ pS m 1) X Y Z U k = S ++ catP (fun i => (m :: rows4 X Y Z U N).getD i 0) 0 (k * 4 + 1)
  | 0, _ => by
    have e : wOf 0 0 = 1 := by simp [wOf]
    simp [ac4, catP, e]
  | k + 1, h => by
    have ih := ac4_cat S X Y Z U m N k (by omega)
    have g := rows4_get X Y Z U N k (by omega)
    have e : ∀ j, wOf 0 j = 1 := fun j => by simp [wOf]
    rw [show (k + 1) * 4 + 1 = k * 4 + 1 + 1 + 1 + 1 + 1 by omega]
    simp only [ac4, catP, ih, e, cons_get, g.1, g.2.1, g.2.2.1, g.2.2.2, ByteArray.append_assoc]
def bP (C : Cfg) (k : Nat) : ByteArray := ac2 ((⟨#[80, 82, 49]⟩ : ByteArray) ++ pS C.nP 1) C.q C.s 2 k
def bW (C : Cfg) (k : Nat) : ByteArray := ac2 (bP C C.nP ++ pS C.nW 1) C.wp C.wt 1 k
def bC (C : Cfg) (k : Nat) : ByteArray := ac4 (bW C C.nW ++ pS C.nC 1) C.cf C.ct C.cc C.cw k
theorem bC_conf (C : Cfg) : bC C C.nC = confS C := by
  have l1 : (xP C).length = C.nP * 2 + 1 := by simp [xP, rows2_len]
  have l2 : (xW C).length = C.nW * 2 + 1 := by simp [xW, rows2_len]
  have l3 : (xC C).length = C.nC * 4 + 1 := by simp [xC, rows4_len]
  unfold bC bW bP confS catL
  rw [l1, l2, l3]
  rw [show (2 : Int) = 1 + 1 from rfl, ac2_cat _ _ _ _ 1 (.inr rfl) C.nP C.nP (Nat.le_refl _)]
  have h2 := ac2_cat ((⟨#[80, 82, 49]⟩ : ByteArray) ++ catP (fun i => (xP C).getD i 0) 1 (C.nP * 2 + 1)) C.wp C.wt C.nW 0 (.inl rfl) C.nW C.nW (Nat.le_refl _)
  rw [show (1 : Int) + 0 = 1 from rfl] at h2
  unfold xP at h2
  rw [h2, ac4_cat _ _ _ _ _ _ C.nC C.nC (Nat.le_refl _)]
  rfl
theorem ac2_size (S : ByteArray) (X Y : Nat → Int) (a : Int) (ha : a = 1 ∨ a = 2) : ∀ k, (ac2 S X Y a k).size ≤ S.size + 4 * k
  | 0 => by simp [ac2]
  | k + 1 => by
    have h1 := ac2_size S X Y a ha k
    have h2 := pS_size2 (X k) a ha
    have h3 := pS_size2 (Y k) 1 (.inl rfl)
    simp only [ac2, ByteArray.size_append]
    omega
theorem ac4_size (S : ByteArray) (X Y Z U : Nat → Int) : ∀ k, (ac4 S X Y Z U k).size ≤ S.size + 8 * k
  | 0 => by simp [ac4]
  | k + 1 => by
    have h1 := ac4_size S X Y Z U k
    have h2 := pS_size2 (X k) 1 (.inl rfl)
    have h3 := pS_size2 (Y k) 1 (.inl rfl)
    have h4 := pS_size2 (Z k) 1 (.inl rfl)
    have h5 := pS_size2 (U k) 1 (.inl rfl)
    simp only [ac4, ByteArray.size_append]
    omega
set_option maxHeartbeats 4000000 in
theorem rbytes_any (C : Cfg) (ly : Lay) (w : World) (hI : IsC w C ly) (hok : NumOk C) :
    Calls Try.prog 32 #[.agg (cfgV C ly)] w fun e w' => e = .returned (.string (confS C)) ∧ Below w.heap.size w w' := by
  have HI := Lib.hid hI
  have HNUM := Lib.hid hok
  have hN := hok.N
  have HM := Lib.hid fun (n v : Int) (W : World) (h0 : 0 ≤ n) (h1 : n < 4294967296) => rnm_any n v W h0 h1
  have HF := Lib.hid (bC_conf C)
  clear hI hok
  obtain ⟨pP, cP, pW, cW, pC, cC⟩ := ly
  unfold cfgV at *
  simp only at *
  go_enter Try.func32, Try.ntmps32
  go_wp2_with fail
  refine (HM.out C.nP 1 _ (by omega) (by omega)).mono ?_; rintro e w1 ⟨rfl, hb⟩
  have HB1 := Lib.hid (bstep (a := w) (by go_grown) hb)
  have HV1 := Lib.hid (bk_below (bk_new w (.cells #[.slice pP C.nP cP, .slice pW C.nW cW, .slice pC C.nC cC] 26)) hb)
  clear hb
  have hs1 := pS_size2 C.nP 1 (.inl rfl)
  have hv1 : w.heap.size < w1.heap.size := bk_lt HV1.out
  go_wp2_with fail
  go_loopw [3, 4] (fun sv iv W' => ∃ k : Nat, k ≤ C.nP ∧ iv = .int .i64 k ∧ sv = .string (bP C k) ∧ W'.heap[w.heap.size]? = some (.cells #[.slice pP C.nP cP, .slice pW C.nW cW, .slice pC C.nC cC] 26 (0, 0)) ∧ Below w.heap.size w W') (fun _ iv _ => C.nP - (intOf iv).toNat)
  case atStart => exact ⟨0, by omega, rfl, rfl, HV1.out, HB1.out⟩
  case round =>
    obtain ⟨k, hk, rfl, rfl, hv, hb⟩ := hrel
    have HV := Lib.hid hv
    have HB := Lib.hid hb
    have hlt := bk_lt hv
    have c0 : wr.cell? ⟨w.heap.size, 0, none⟩ = some (.slice pP C.nP cP) := (bk_cell hv 0).trans rfl
    clear hv hb
    have hss : (bP C k).size ≤ 5 + 4 * k := Nat.le_trans (ac2_size ((⟨#[80, 82, 49]⟩ : ByteArray) ++ pS C.nP 1) C.q C.s 2 (.inr rfl) k) (by rw [ByteArray.size_append]; have : (⟨#[80, 82, 49]⟩ : ByteArray).size = 3 := rfl; omega)
    by_cases hkn : k < C.nP
    · have hkn' : (k : Int) < C.nP := by omega
      rcases HI.out.P with h0 | ⟨b, o, rfl, hc⟩
      · omega
      have hw := HNUM.out.P hkn
      have d0 := keepc HB.out (hc k hkn).1
      have d1 := keepc HB.out (hc k hkn).2
      have hp0 := pS_size2 (C.q k) 2 (by first | exact .inl rfl | exact .inr rfl)
      have hp1 := pS_size2 (C.s k) 1 (by first | exact .inl rfl | exact .inr rfl)
      have za0 : 0 ≤ C.q k := by omega
      have zb0 : C.q k < 4294967296 := by omega
      have za1 : 0 ≤ C.s k := by omega
      have zb1 : C.s k < 4294967296 := by omega
      have hbp : bP C (k + 1) = ((bP C k) ++ pS (C.q k) 2) ++ pS (C.s k) 1 := rfl
      have HBP := Lib.hid hbp
      have hs5 : ¬ 9223372036854775807 < (bP C k).size + (pS (C.q k) 2).size := by omega
      have hs6 : ¬ 9223372036854775807 < (bP C k).size + (pS (C.q k) 2).size + (pS (C.s k) 1).size := by omega
      clear hbp hc hw
      generalize bP C k = bs at *
      generalize C.q k = x0 at *
      generalize C.s k = x1 at *
      go_wp2_with fail
      go_region_held3 (fun W' => W'.cell? ⟨w.heap.size, 0, none⟩ = some (.slice (some ⟨b, o, none⟩) C.nP cP) ∧ W'.cell? ⟨b, o + k * 2, none⟩ = some (.int .i64 x0) ∧ W'.cell? ⟨b, o + k * 2 + 1, none⟩ = some (.int .i64 x1) ∧ Below wr.heap.size wr W')
        (first | ((try go_split_ands); (repeat' apply And.intro) <;> first | assumption | with_reducible first | exact Below.refl _ _ | exact bdrew (Below.refl _ _) | exact keepc hb (by assumption) | exact bstep (by assumption) hb | trace_state))
        (first | (go_at_call 57; refine (HM.out _ _ _ (by first | assumption | omega) (by first | assumption | omega)).mono ?_; rintro e w3 ⟨rfl, hb⟩))
      all_goals
        try go_split_ands
        go_wp2_with fail
        have hbf : Below wr.heap.size wr w3 := by assumption
        exact ⟨⟨k + 1, by omega, by go_num, by rw [HBP.out], bk_below HV.out hbf, bstep HB.out hbf⟩, by simp [intOf]; omega⟩
    · obtain rfl : k = C.nP := by omega
      have hkn' : ¬ (C.nP : Int) < C.nP := by omega
      have hsn := pS_size2 C.nW 1 (.inl rfl)
      have c1 : wr.cell? ⟨w.heap.size, 1, none⟩ = some (.slice pW C.nW cW) := (bk_cell HV.out 1).trans rfl
      have hs9 : ¬ 9223372036854775807 < (bP C C.nP).size + (pS C.nW 1).size := by omega
      have HSZ := Lib.hid (show (bP C C.nP).size ≤ 37 by omega)
      clear hss hk hkn
      go_wp2_with fail
      refine (HM.out C.nW 1 _ (by omega) (by omega)).mono ?_; rintro e w2 ⟨rfl, hb⟩
      clear HV1 HB1
      have HB1 := Lib.hid (bstep HB.out hb)
      have HV1 := Lib.hid (bk_below HV.out hb)
      have hv10 : w.heap.size < w2.heap.size := bk_lt HV1.out
      clear hb c0 c1 HB HV hlt
      go_wp2_with fail
      go_loopw [3, 5] (fun sv iv W' => ∃ k : Nat, k ≤ C.nW ∧ iv = .int .i64 k ∧ sv = .string (bW C k) ∧ W'.heap[w.heap.size]? = some (.cells #[.slice pP C.nP cP, .slice pW C.nW cW, .slice pC C.nC cC] 26 (0, 0)) ∧ Below w.heap.size w W') (fun _ iv _ => C.nW - (intOf iv).toNat)
      case atStart => exact ⟨0, by omega, rfl, rfl, HV1.out, HB1.out⟩
      case round =>
        obtain ⟨k, hk, rfl, rfl, hv, hb⟩ := hrel
        have HV := Lib.hid hv
        have HB := Lib.hid hb
        have hlt := bk_lt hv
        have c0 : wr.cell? ⟨w.heap.size, 1, none⟩ = some (.slice pW C.nW cW) := (bk_cell hv 1).trans rfl
        clear hv hb
        have hss : (bW C k).size ≤ 40 + 4 * k := Nat.le_trans (ac2_size _ C.wp C.wt 1 (.inl rfl) k) (by rw [ByteArray.size_append]; have := HSZ.out; have := pS_size2 C.nW 1 (.inl rfl); omega)
        by_cases hkn : k < C.nW
        · have hkn' : (k : Int) < C.nW := by omega
          rcases HI.out.W with h0 | ⟨b, o, rfl, hc⟩
          · omega
          have hw := HNUM.out.W hkn
          have d0 := keepc HB.out (hc k hkn).1
          have d1 := keepc HB.out (hc k hkn).2
          have hp0 := pS_size2 (C.wp k) 1 (by first | exact .inl rfl | exact .inr rfl)
          have hp1 := pS_size2 (C.wt k) 1 (by first | exact .inl rfl | exact .inr rfl)
          have za0 : 0 ≤ C.wp k := by omega
          have zb0 : C.wp k < 4294967296 := by omega
          have za1 : 0 ≤ C.wt k := by omega
          have zb1 : C.wt k < 4294967296 := by omega
          have hbp : bW C (k + 1) = ((bW C k) ++ pS (C.wp k) 1) ++ pS (C.wt k) 1 := rfl
          have HBP := Lib.hid hbp
          have hs5 : ¬ 9223372036854775807 < (bW C k).size + (pS (C.wp k) 1).size := by omega
          have hs6 : ¬ 9223372036854775807 < (bW C k).size + (pS (C.wp k) 1).size + (pS (C.wt k) 1).size := by omega
          clear hbp hc hw
          generalize bW C k = bs at *
          generalize C.wp k = x0 at *
          generalize C.wt k = x1 at *
          go_wp2_with fail
          go_region_held3 (fun W' => W'.cell? ⟨w.heap.size, 1, none⟩ = some (.slice (some ⟨b, o, none⟩) C.nW cW) ∧ W'.cell? ⟨b, o + k * 2, none⟩ = some (.int .i64 x0) ∧ W'.cell? ⟨b, o + k * 2 + 1, none⟩ = some (.int .i64 x1) ∧ Below wr.heap.size wr W')
            (first | ((try go_split_ands); (repeat' apply And.intro) <;> first | assumption | with_reducible first | exact Below.refl _ _ | exact bdrew (Below.refl _ _) | exact keepc hb (by assumption) | exact bstep (by assumption) hb | trace_state))
            (first | (go_at_call 57; refine (HM.out _ _ _ (by first | assumption | omega) (by first | assumption | omega)).mono ?_; rintro e w3 ⟨rfl, hb⟩))
          all_goals
            try go_split_ands
            go_wp2_with fail
            have hbf : Below wr.heap.size wr w3 := by assumption
            exact ⟨⟨k + 1, by omega, by go_num, by rw [HBP.out], bk_below HV.out hbf, bstep HB.out hbf⟩, by simp [intOf]; omega⟩
        · obtain rfl : k = C.nW := by omega
          have hkn' : ¬ (C.nW : Int) < C.nW := by omega
          have hsn := pS_size2 C.nC 1 (.inl rfl)
          have c1 : wr.cell? ⟨w.heap.size, 2, none⟩ = some (.slice pC C.nC cC) := (bk_cell HV.out 2).trans rfl
          have hs9 : ¬ 9223372036854775807 < (bW C C.nW).size + (pS C.nC 1).size := by omega
          clear HSZ
          have HSZ := Lib.hid (show (bW C C.nW).size ≤ 168 by omega)
          clear hss hk hkn
          go_wp2_with fail
          refine (HM.out C.nC 1 _ (by omega) (by omega)).mono ?_; rintro e w2 ⟨rfl, hb⟩
          clear HV1 HB1
          have HB1 := Lib.hid (bstep HB.out hb)
          have HV1 := Lib.hid (bk_below HV.out hb)
          have hv11 : w.heap.size < w2.heap.size := bk_lt HV1.out
          clear hb c0 c1 HB HV hlt
          go_wp2_with fail
          go_loopw [3, 6] (fun sv iv W' => ∃ k : Nat, k ≤ C.nC ∧ iv = .int .i64 k ∧ sv = .string (bC C k) ∧ W'.heap[w.heap.size]? = some (.cells #[.slice pP C.nP cP, .slice pW C.nW cW, .slice pC C.nC cC] 26 (0, 0)) ∧ Below w.heap.size w W') (fun _ iv _ => C.nC - (intOf iv).toNat)
          case atStart => exact ⟨0, by omega, rfl, rfl, HV1.out, HB1.out⟩
          case round =>
            obtain ⟨k, hk, rfl, rfl, hv, hb⟩ := hrel
            have HV := Lib.hid hv
            have HB := Lib.hid hb
            have hlt := bk_lt hv
            have c0 : wr.cell? ⟨w.heap.size, 2, none⟩ = some (.slice pC C.nC cC) := (bk_cell hv 2).trans rfl
            clear hv hb
            have hss : (bC C k).size ≤ 200 + 8 * k := Nat.le_trans (ac4_size _ C.cf C.ct C.cc C.cw k) (by rw [ByteArray.size_append]; have := HSZ.out; have := pS_size2 C.nC 1 (.inl rfl); omega)
            by_cases hkn : k < C.nC
            · have hkn' : (k : Int) < C.nC := by omega
              rcases HI.out.C with h0 | ⟨b, o, rfl, hc⟩
              · omega
              have hw := HNUM.out.C hkn
              have d0 := keepc HB.out (hc k hkn).1
              have d1 := keepc HB.out (hc k hkn).2.1
              have d2 := keepc HB.out (hc k hkn).2.2.1
              have d3 := keepc HB.out (hc k hkn).2.2.2
              have hp0 := pS_size2 (C.cf k) 1 (by first | exact .inl rfl | exact .inr rfl)
              have hp1 := pS_size2 (C.ct k) 1 (by first | exact .inl rfl | exact .inr rfl)
              have hp2 := pS_size2 (C.cc k) 1 (by first | exact .inl rfl | exact .inr rfl)
              have hp3 := pS_size2 (C.cw k) 1 (by first | exact .inl rfl | exact .inr rfl)
              have za0 : 0 ≤ C.cf k := by omega
              have zb0 : C.cf k < 4294967296 := by omega
              have za1 : 0 ≤ C.ct k := by omega
              have zb1 : C.ct k < 4294967296 := by omega
              have za2 : 0 ≤ C.cc k := by omega
              have zb2 : C.cc k < 4294967296 := by omega
              have za3 : 0 ≤ C.cw k := by omega
              have zb3 : C.cw k < 4294967296 := by omega
              have hbp : bC C (k + 1) = ((((bC C k) ++ pS (C.cf k) 1) ++ pS (C.ct k) 1) ++ pS (C.cc k) 1) ++ pS (C.cw k) 1 := rfl
              have HBP := Lib.hid hbp
              have hs5 : ¬ 9223372036854775807 < (bC C k).size + (pS (C.cf k) 1).size := by omega
              have hs6 : ¬ 9223372036854775807 < (bC C k).size + (pS (C.cf k) 1).size + (pS (C.ct k) 1).size := by omega
              have hs7 : ¬ 9223372036854775807 < (bC C k).size + (pS (C.cf k) 1).size + (pS (C.ct k) 1).size + (pS (C.cc k) 1).size := by omega
              have hs8 : ¬ 9223372036854775807 < (bC C k).size + (pS (C.cf k) 1).size + (pS (C.ct k) 1).size + (pS (C.cc k) 1).size + (pS (C.cw k) 1).size := by omega
              clear hbp hc hw
              generalize bC C k = bs at *
              generalize C.cf k = x0 at *
              generalize C.ct k = x1 at *
              generalize C.cc k = x2 at *
              generalize C.cw k = x3 at *
              go_wp2_with fail
              have y0 := bk_new wr (.cells #[.int .i64 x0, .int .i64 x1, .int .i64 x2, .int .i64 x3] 46)
              have f0 : (wr.alloc (.cells #[.int .i64 x0, .int .i64 x1, .int .i64 x2, .int .i64 x3] 46)).drew.cell? ⟨wr.heap.size, 0, none⟩ = some (.int .i64 x0) := (bk_cell y0 0).trans rfl
              have f1 : (wr.alloc (.cells #[.int .i64 x0, .int .i64 x1, .int .i64 x2, .int .i64 x3] 46)).drew.cell? ⟨wr.heap.size, 1, none⟩ = some (.int .i64 x1) := (bk_cell y0 1).trans rfl
              have f2 : (wr.alloc (.cells #[.int .i64 x0, .int .i64 x1, .int .i64 x2, .int .i64 x3] 46)).drew.cell? ⟨wr.heap.size, 2, none⟩ = some (.int .i64 x2) := (bk_cell y0 2).trans rfl
              have f3 : (wr.alloc (.cells #[.int .i64 x0, .int .i64 x1, .int .i64 x2, .int .i64 x3] 46)).drew.cell? ⟨wr.heap.size, 3, none⟩ = some (.int .i64 x3) := (bk_cell y0 3).trans rfl
              have f4 : Below wr.heap.size wr (wr.alloc (.cells #[.int .i64 x0, .int .i64 x1, .int .i64 x2, .int .i64 x3] 46)).drew := bdrew ((Below.refl _ _).alloc (Nat.le_refl _) _)
              go_region_held3 (fun W' => W'.cell? ⟨wr.heap.size, 0, none⟩ = some (.int .i64 x0) ∧ W'.cell? ⟨wr.heap.size, 1, none⟩ = some (.int .i64 x1) ∧ W'.cell? ⟨wr.heap.size, 2, none⟩ = some (.int .i64 x2) ∧ W'.cell? ⟨wr.heap.size, 3, none⟩ = some (.int .i64 x3) ∧ Below wr.heap.size wr W')
                (first | ((try go_split_ands); (repeat' apply And.intro) <;> first | assumption | with_reducible first | exact Below.refl _ _ | exact bdrew (Below.refl _ _) | exact keepc hb (by assumption) | exact bstep (by assumption) hb | trace_state))
                (first | (go_at_call 57; refine (HM.out _ _ _ (by first | assumption | omega) (by first | assumption | omega)).mono ?_; rintro e w3 ⟨rfl, hb⟩))
              all_goals
                try go_split_ands
                go_wp2_with fail
                have hbf : Below wr.heap.size wr w3 := by assumption
                exact ⟨⟨k + 1, by omega, by go_num, by rw [HBP.out], bk_below HV.out hbf, bstep HB.out hbf⟩, by simp [intOf]; omega⟩
            · obtain rfl : k = C.nC := by omega
              have hkn' : ¬ (C.nC : Int) < C.nC := by omega
              go_wp2_with fail
              go_ret
              exact ⟨by rw [HF.out]; rfl, HB.out⟩
set_option maxHeartbeats 1000000 in
theorem rput_ok (C : Cfg) (ly : Lay) (w : World) (hI : IsC w C ly) (hN : C.nP ≤ 1000000 ∧ C.nW ≤ 1000000 ∧ C.nC ≤ 1000000) (hok : CkOk C) :
    Calls Try.prog 12 #[.agg (cfgV C ly)] w fun e w' => e = .returned (.tuple #[.string (confS C), .int .i64 0]) ∧ Below w.heap.size w w' := by
  have hck := fun (W : World) (h : IsC W C ly) => rcheck_any C ly W h hN
  have hby := fun (W : World) (h : IsC W C ly) => rbytes_any C ly W h hok.1
  rw [ckE_ok hok] at hck
  have HK := Lib.hid hck
  have HY := Lib.hid hby
  have HI := Lib.hid hI
  clear hI hN hok hck hby
  obtain ⟨pP, cP, pW, cW, pC, cC⟩ := ly
  unfold cfgV at *
  simp only at *
  go_enter Try.func12, Try.ntmps12
  go_wp2_with fail
  refine (HK.out _ (by exact HI.out.below (by go_grown))).mono ?_; rintro e w1 ⟨rfl, hb⟩
  have HB := Lib.hid (bstep (a := w) (by go_grown) hb)
  have hv := bk_below (bk_new w (.cells #[.slice pP C.nP cP, .slice pW C.nW cW, .slice pC C.nC cC] 26)) hb
  have hlt := bk_lt hv
  have c0 : w1.cell? ⟨w.heap.size, 0, none⟩ = some (.slice pP C.nP cP) := (bk_cell hv 0).trans rfl
  have c1 : w1.cell? ⟨w.heap.size, 1, none⟩ = some (.slice pW C.nW cW) := (bk_cell hv 1).trans rfl
  have c2 : w1.cell? ⟨w.heap.size, 2, none⟩ = some (.slice pC C.nC cC) := (bk_cell hv 2).trans rfl
  clear hb hv
  go_wp2_with fail
  refine (HY.out _ (by exact HI.out.below HB.out)).mono ?_; rintro e w2 ⟨rfl, hb⟩
  have HB2 := Lib.hid (bstep HB.out hb)
  clear hb
  go_wp2
  go_ret2
  exact ⟨rfl, HB2.out⟩
theorem rput_bad (C : Cfg) (ly : Lay) (w : World) (hI : IsC w C ly) (hN : C.nP ≤ 1000000 ∧ C.nW ≤ 1000000 ∧ C.nC ≤ 1000000) (hok : ¬ CkOk C) :
    Calls Try.prog 12 #[.agg (cfgV C ly)] w fun e w' => e = .returned (.tuple #[.string ⟨#[]⟩, .int .i64 (ckE C)]) ∧ Below w.heap.size w w' := by
  have hne : (ckE C == 0) = false := beq_eq_false_iff_ne.2 (by rcases ckE_cases C with ⟨h', _⟩ | ⟨_, h' | h'⟩ <;> first | exact absurd h' hok | omega)
  have hne2 : (ckE C != 0) = true := by simp only [bne, hne]; rfl
  have HK := Lib.hid fun (W : World) (h : IsC W C ly) => rcheck_any C ly W h hN
  have HI := Lib.hid hI
  clear hI hN hok
  generalize ckE C = er at *
  obtain ⟨pP, cP, pW, cW, pC, cC⟩ := ly
  unfold cfgV at *
  simp only at *
  go_enter Try.func12, Try.ntmps12
  go_wp2_with fail
  refine (HK.out _ (by exact HI.out.below (by go_grown))).mono ?_; rintro e w1 ⟨rfl, hb⟩
  go_wp2
  go_ret2
  exact ⟨rfl, bstep (by go_grown) hb⟩
/-- what Put answers -/
noncomputable def putS (C : Cfg) : ByteArray := by classical exact if CkOk C then confS C else ⟨#[]⟩
theorem rput6_any (C : Cfg) (ly : Lay) (w : World) (hI : IsC w C ly) (hN : C.nP ≤ 1000000 ∧ C.nW ≤ 1000000 ∧ C.nC ≤ 1000000) :
    Calls Try.prog 12 #[.agg (cfgV C ly)] w fun e w' => e = .returned (.tuple #[.string (putS C), .int .i64 (ckE C)]) ∧ Below w.heap.size w w' := by
  by_cases hok : CkOk C
  · rw [ckE_ok hok, show putS C = confS C from if_pos hok]
    exact rput_ok C ly w hI hN hok
  · rw [show putS C = ⟨#[]⟩ from if_neg hok]
    exact rput_bad C ly w hI hN hok
theorem cfput_any (C : Cfg) (ly : Lay) (w : World) (hI : IsC w C ly) (hN : C.nP ≤ 1000000 ∧ C.nW ≤ 1000000 ∧ C.nC ≤ 1000000) :
    Calls Try.prog 11 #[.agg (cfgV C ly)] w fun e w' => e = .returned (.tuple #[.string (putS C), .int .i64 (ckE C)]) ∧ Below w.heap.size w w' := by
  by_cases hok : CkOk C
  · rw [ckE_ok hok, show putS C = confS C from if_pos hok]
    exact cfput_ok C ly w hI hN hok
  · rw [show putS C = ⟨#[]⟩ from if_neg hok]
    exact cfput_bad C ly w hI hN hok
end Go.Proofs.Ythgoighpmnecbaa
