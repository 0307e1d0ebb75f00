/- Helper text of this seat (ZG): contracts of functions of the given program and of its references, and the laws' plain parts, each told by its theorem. Conditions: as each theorem names them. -/
import Derived.Test.YthgoighpmnecbaaZD
import Derived.Test.YthgoighpmnecbaaZE
import Derived.Test.YthgoighpmnecbaaZF
import Derived.Lib.Bytes
import Derived.Laws.Strings
import Derived.Deep.RegionHeld3
namespace Go.Proofs.Ythgoighpmnecbaa
open Go.RowKit Go.Proofs.YthgoighpmnecbaaW.PrintWords
set_option linter.unusedVariables false
set_option linter.unusedSimpArgs false
theorem bw_len (k : Nat) : ∀ n, (bw k n).length = k := by
  induction k with
  | zero => intro n; rfl
  | succ k ih => intro n; simp [bw, ih]
theorem bad_false {n v : Int} (h : pE n v = 0) : pBad n v = false := by
  unfold pE at h
  cases k : pBad n v with | false => rfl | true => rw [k] at h; simp at h
theorem good {n v : Int} (h : pE n v = 0) : 1 ≤ v ∧ v ≤ 4 ∧ n < 256 ^ v.toNat := by
  have k := bad_false h
  simp [pBad] at k
  omega
theorem pS_data {n v : Int} (h : pE n v = 0) : (pS n v).data.toList = (bw v.toNat n).map fun n => UInt8.ofNat n.toNat := by
  simp only [pS, bad_false h]
  rfl
theorem pS_size {n v : Int} (h : pE n v = 0) : (pS n v).size = v.toNat := by
  have h1 := congrArg List.length (pS_data h)
  simp [bw_len] at h1
  exact h1
theorem be_bw : ∀ (k : Nat) (n : Int), 0 ≤ n → n < 256 ^ k → be ((bw k n).map fun n => UInt8.ofNat n.toNat) = n
  | 0, n, h0, h1 => by simp at h1; simp [bw, be]; omega
  | k + 1, n, h0, h1 => by
    have p1 : (256 : Int) ^ (k + 1) = 256 ^ k * 256 := Int.pow_succ ..
    have ih := be_bw k (n / 256) (by omega) (by omega)
    simp only [bw, List.map_append, List.map_cons, List.map_nil]
    rw [be_snoc, ih]
    have : ((UInt8.ofNat (n % 256).toNat).toNat : Int) = n % 256 := by simp; omega
    omega
theorem app_take (s t : ByteArray) : (s ++ t).data.toList.take s.size = s.data.toList := by
  have : s.size = s.data.toList.length := by simp
  rw [this, ByteArray.data_append, Array.toList_append, List.take_left]
theorem app_drop (s t : ByteArray) : (s ++ t).extract s.size (s ++ t).size = t := by
  exact ByteArray.extract_append_eq_right rfl ByteArray.size_append
theorem bw_be : ∀ (k : Nat) (l : List UInt8), l.length = k → bw k (be l) = l.map fun c => (c.toNat : Int)
  | 0, l, h => by
    have : l = [] := by simpa using h
    subst this
    rfl
  | k + 1, l, h => by
    obtain ⟨m, c, rfl⟩ : ∃ m c, l = m ++ [c] := ⟨l.dropLast, l.getLast (by intro e; subst e; simp at h), (List.dropLast_concat_getLast _).symm⟩
    have hm : m.length = k := by simpa using h
    have hc := c.toNat_lt
    rw [be_snoc]
    have e1 : (be m * 256 + (c.toNat : Int)) / 256 = be m := by omega
    have e2 : (be m * 256 + (c.toNat : Int)) % 256 = c.toNat := by omega
    rw [bw, e1, e2, bw_be k m hm]
    simp
/-- what is read, put again, are the bytes -/
theorem put_list (l : List UInt8) (h1 : 1 ≤ l.length) (h4 : l.length ≤ 4) : 0 ≤ be l ∧ be l < 4294967296 ∧ pE (be l) l.length = 0 ∧ pS (be l) l.length = ⟨l.toArray⟩ := by
  have hb := be_bound l
  have h256 : (256 : Int) ^ l.length ≤ 4294967296 := by
    rcases (show l.length = 1 ∨ l.length = 2 ∨ l.length = 3 ∨ l.length = 4 by omega) with h | h | h | h <;> rw [h] <;> decide
  have hbad : pBad (be l) l.length = false := by
    simp only [pBad, Int.toNat_natCast]
    simp
    omega
  refine ⟨hb.1, by omega, by simp [pE, hbad], ?_⟩
  have e : pS (be l) l.length = strOfNums (bw l.length (be l)) := by simp [pS, hbad]
  rw [e, bw_be _ _ rfl]
  apply ByteArray.ext
  apply Array.toList_inj.1
  show ((l.map fun c => (c.toNat : Int)).map fun n => UInt8.ofNat n.toNat) = l
  rw [List.map_map]
  have : ((fun n : Int => UInt8.ofNat n.toNat) ∘ fun c : UInt8 => (c.toNat : Int)) = id := by
    funext c
    simp
  rw [this, List.map_id]
theorem num_step (x k : Int) (t : ByteArray) (h0 : 0 ≤ x) (he : pE x k = 0) : nv ⟨pS x k ++ t, true⟩ k = x ∧ nx ⟨pS x k ++ t, true⟩ k = ⟨t, true⟩ := by
  obtain ⟨g1, g2, g3⟩ := good he
  have hz := pS_size he
  have hsz : (pS x k ++ t).size = (pS x k).size + t.size := ByteArray.size_append
  have e3 : nOk (pS x k ++ t) true k = true := by simp only [nOk, hsz]; simp; omega
  have e1 : nV (pS x k ++ t) true k = x := by
    simp only [nV, e3]
    rw [← hz, if_pos trivial, app_take, pS_data he, be_bw _ _ h0 g3]
  have e2 : nS (pS x k ++ t) true k = t := by
    simp only [nS, e3]
    rw [← hz, if_pos trivial, app_drop]
  exact ⟨e1, by simp only [nx, e2, e3]⟩
theorem num_back (s : St) (k : Int) (h : (nx s k).f = true) : s.f = true ∧ 0 ≤ nv s k ∧ nv s k < 4294967296 ∧ pE (nv s k) k = 0 ∧ s.t = pS (nv s k) k ++ (nx s k).t := by
  obtain ⟨t, f⟩ := s
  have hok : nOk t f k = true := h
  have hf : f = true := by simp [nOk] at hok; exact hok.1.1.1
  subst hf
  have hk : 1 ≤ k ∧ k ≤ 4 ∧ k ≤ t.size := by simp [nOk] at hok; omega
  obtain ⟨m, rfl⟩ : ∃ m : Nat, k = m := ⟨k.toNat, by omega⟩
  have hlen : (t.data.toList.take m).length = m := by
    have : t.data.toList.length = t.size := by rw [Array.length_toList]; rfl
    rw [List.length_take]; omega
  have hp := put_list (t.data.toList.take m) (by omega) (by omega)
  rw [hlen] at hp
  have hv : nv ⟨t, true⟩ m = be (t.data.toList.take m) := by simp [nv, nV, hok]
  have hx : (nx ⟨t, true⟩ m).t = t.extract m t.size := by simp [nx, nS, hok]
  rw [hv, hx]
  refine ⟨rfl, hp.1, hp.2.1, hp.2.2.1, ?_⟩
  rw [hp.2.2.2]
  apply ByteArray.ext
  apply Array.toList_inj.1
  have e : (t.extract m t.size).data.toList = t.data.toList.drop m := by
    simp only [ByteArray.data_extract, Array.toList_extract, List.extract_eq_take_drop]
    have : t.data.toList.length = t.size := by rw [Array.length_toList]; rfl
    rw [List.take_of_length_le (by rw [List.length_drop]; omega)]
  rw [ByteArray.data_append, Array.toList_append, e]
  show t.data.toList = t.data.toList.take m ++ t.data.toList.drop m
  rw [List.take_append_drop]
/-- the bytes of pairs, of fours -/
def cat2 (a b : Int) : List (Int × Int) → ByteArray
  | [] => ⟨#[]⟩
  | x :: l => pS x.1 a ++ (pS x.2 b ++ cat2 a b l)
def cat4 : List (Int × Int × Int × Int) → ByteArray
  | [] => ⟨#[]⟩
  | x :: l => pS x.1 1 ++ (pS x.2.1 1 ++ (pS x.2.2.1 1 ++ (pS x.2.2.2 1 ++ cat4 l)))
def ok2 (a b : Int) (x : Int × Int) : Prop := (0 ≤ x.1 ∧ pE x.1 a = 0) ∧ (0 ≤ x.2 ∧ pE x.2 b = 0)
def ok4 (x : Int × Int × Int × Int) : Prop := (0 ≤ x.1 ∧ pE x.1 1 = 0) ∧ (0 ≤ x.2.1 ∧ pE x.2.1 1 = 0) ∧ (0 ≤ x.2.2.1 ∧ pE x.2.2.1 1 = 0) ∧ (0 ≤ x.2.2.2 ∧ pE x.2.2.2 1 = 0)
theorem emp_app (r : ByteArray) : (⟨#[]⟩ : ByteArray) ++ r = r := ByteArray.empty_append
theorem el2_app (a b : Int) : ∀ (l : List (Int × Int)) (r : ByteArray), (∀ x ∈ l, ok2 a b x) → el2 a b l.length ⟨cat2 a b l ++ r, true⟩ = l ∧ st2 a b l.length ⟨cat2 a b l ++ r, true⟩ = ⟨r, true⟩
  | [], r, _ => by simp [el2, st2, cat2, emp_app]
  | x :: l, r, h => by
    obtain ⟨⟨h1, h2⟩, h3, h4⟩ := h x (by simp)
    have ih := el2_app a b l r fun y hy => h y (by simp [hy])
    have n1 := num_step x.1 a (pS x.2 b ++ (cat2 a b l ++ r)) h1 h2
    have n2 := num_step x.2 b (cat2 a b l ++ r) h3 h4
    simp only [List.length_cons, el2, st2, cat2, nx2, ByteArray.append_assoc, if_true, n1.1, n1.2, n2.1, n2.2, ih.1, ih.2]
    exact ⟨trivial, trivial⟩
theorem el4_app : ∀ (l : List (Int × Int × Int × Int)) (r : ByteArray), (∀ x ∈ l, ok4 x) → el4 l.length ⟨cat4 l ++ r, true⟩ = l ∧ st4 l.length ⟨cat4 l ++ r, true⟩ = ⟨r, true⟩
  | [], r, _ => by simp [el4, st4, cat4, emp_app]
  | x :: l, r, h => by
    obtain ⟨⟨h1, h2⟩, ⟨h3, h4⟩, ⟨h5, h6⟩, h7, h8⟩ := h x (by simp)
    have ih := el4_app l r fun y hy => h y (by simp [hy])
    have n1 := num_step x.1 1 (pS x.2.1 1 ++ (pS x.2.2.1 1 ++ (pS x.2.2.2 1 ++ (cat4 l ++ r)))) h1 h2
    have n2 := num_step x.2.1 1 (pS x.2.2.1 1 ++ (pS x.2.2.2 1 ++ (cat4 l ++ r))) h3 h4
    have n3 := num_step x.2.2.1 1 (pS x.2.2.2 1 ++ (cat4 l ++ r)) h5 h6
    have n4 := num_step x.2.2.2 1 (cat4 l ++ r) h7 h8
    simp only [List.length_cons, el4, st4, cat4, nx4, ByteArray.append_assoc, if_true, n1.1, n1.2, n2.1, n2.2, n3.1, n3.2, n4.1, n4.2, ih.1, ih.2]
    exact ⟨trivial, trivial⟩
theorem el2_back (a b : Int) : ∀ (n : Nat) (s : St), (st2 a b n s).f = true → s.f = true ∧ (el2 a b n s).length = n ∧ s.t = cat2 a b (el2 a b n s) ++ (st2 a b n s).t ∧ ∀ x ∈ el2 a b n s, ok2 a b x
  | 0, s, h => by
    refine ⟨h, rfl, by simp [el2, st2, cat2, emp_app], by simp [el2]⟩
  | n + 1, s, h => by
    by_cases hf : s.f = true
    · simp only [st2, hf, if_true] at h
      obtain ⟨i1, i2, i3, i4⟩ := el2_back a b n (nx2 s a b) h
      obtain ⟨b1, b2, b3, b4, b5⟩ := num_back (nx s a) b i1
      obtain ⟨a1, a2, a3, a4, a5⟩ := num_back s a b1
      refine ⟨hf, by simp [el2, hf, i2], ?_, ?_⟩
      · simp only [el2, st2, hf, if_true, cat2, ByteArray.append_assoc]
        rw [← i3]
        show s.t = pS (nv s a) a ++ (pS (nv (nx s a) b) b ++ (nx (nx s a) b).t)
        rw [← b5, ← a5]
      · simp only [el2, hf, if_true, List.mem_cons]
        rintro x (rfl | hx)
        · exact ⟨⟨a2, a4⟩, b2, b4⟩
        · exact i4 x hx
    · simp [st2, hf] at h
theorem el4_back : ∀ (n : Nat) (s : St), (st4 n s).f = true → s.f = true ∧ (el4 n s).length = n ∧ s.t = cat4 (el4 n s) ++ (st4 n s).t ∧ ∀ x ∈ el4 n s, ok4 x
  | 0, s, h => by
    refine ⟨h, rfl, by simp [el4, st4, cat4, emp_app], by simp [el4]⟩
  | n + 1, s, h => by
    by_cases hf : s.f = true
    · simp only [st4, hf, if_true] at h
      obtain ⟨i1, i2, i3, i4⟩ := el4_back n (nx4 s) h
      obtain ⟨d1, d2, d3, d4, d5⟩ := num_back (nx (nx (nx s 1) 1) 1) 1 i1
      obtain ⟨c1, c2, c3, c4, c5⟩ := num_back (nx (nx s 1) 1) 1 d1
      obtain ⟨b1, b2, b3, b4, b5⟩ := num_back (nx s 1) 1 c1
      obtain ⟨a1, a2, a3, a4, a5⟩ := num_back s 1 b1
      refine ⟨hf, by simp [el4, hf, i2], ?_, ?_⟩
      · simp only [el4, st4, hf, if_true, cat4, ByteArray.append_assoc]
        rw [← i3]
        show s.t = pS (nv s 1) 1 ++ (pS (nv (nx s 1) 1) 1 ++ (pS (nv (nx (nx s 1) 1) 1) 1 ++ (pS (nv (nx (nx (nx s 1) 1) 1) 1) 1 ++ (nx (nx (nx (nx s 1) 1) 1) 1).t)))
        rw [← d5, ← c5, ← b5, ← a5]
      · simp only [el4, hf, if_true, List.mem_cons]
        rintro x (rfl | hx)
        · exact ⟨⟨a2, a4⟩, ⟨b2, b4⟩, ⟨c2, c4⟩, d2, d4⟩
        · exact i4 x hx
    · simp [st4, hf] at h
def hd : ByteArray := ⟨#[80, 82, 49]⟩
/-- the bytes of lists -/
def confL (lp lw : List (Int × Int)) (lc : List (Int × Int × Int × Int)) : ByteArray := hd ++ (pS lp.length 1 ++ (cat2 2 1 lp ++ (pS lw.length 1 ++ (cat2 1 1 lw ++ (pS lc.length 1 ++ cat4 lc)))))
theorem sH_app (r : ByteArray) : sH (hd ++ r) = ⟨r, true⟩ := by
  have hs : (hd ++ r).size = 3 + r.size := ByteArray.size_append
  have h1 : (hd ++ r).extract 0 3 = hd := by
    have := ByteArray.extract_append_eq_left (a := hd) (b := r) (i := 3) rfl
    exact this
  have hp : isPre (hd ++ r) hd = true := by
    simp only [isPre, show hd.size = 3 from rfl, h1, hs]
    simp
  have h2 : (hd ++ r).extract 3 (hd ++ r).size = r := app_drop hd r
  unfold sH
  change (⟨txS (hd ++ r) true hd, txF (hd ++ r) true hd⟩ : St) = ⟨r, true⟩
  simp only [txS, txF, cutS, hp, if_true, Bool.and_self]
  rw [show hd.size = 3 from rfl, h2]
theorem sH_back (s : ByteArray) (h : (sH s).f = true) : s = hd ++ (sH s).t := by
  have hp : isPre s hd = true := by
    change txF s true hd = true at h
    simpa [txF] using h
  have hle := pre_le hp
  have ht : (sH s).t = s.extract 3 s.size := by
    show txS s true hd = _
    simp only [txS, cutS, hp, if_true]
    rfl
  have he : (s.extract 0 3).toList = hd.toList := by
    simp only [isPre, Bool.and_eq_true, beq_iff_eq] at hp
    exact hp.2
  rw [ht]
  have h3 : (3 : Nat) ≤ s.size := hle
  have e0 : s.extract 0 3 = hd := by
    rw [ByteArray.toList_eq, ByteArray.toList_eq] at he
    exact ByteArray.ext (Array.toList_inj.1 he)
  have : s.extract 0 3 ++ s.extract 3 s.size = s := by
    rw [ByteArray.extract_append_extract]
    simp
  rw [← e0, this]
theorem confL_app (lp lw : List (Int × Int)) (lc : List (Int × Int × Int × Int)) (r : ByteArray) (h1 : lp.length < 256) (h2 : lw.length < 256) (h3 : lc.length < 256) (g1 : ∀ x ∈ lp, ok2 2 1 x) (g2 : ∀ x ∈ lw, ok2 1 1 x) (g3 : ∀ x ∈ lc, ok4 x) :
    lP (confL lp lw lc ++ r) = lp ∧ lW (confL lp lw lc ++ r) = lw ∧ lC (confL lp lw lc ++ r) = lc ∧ sC (confL lp lw lc ++ r) = ⟨r, true⟩ := by
  have pe : ∀ n : Nat, n < 256 → pE n 1 = 0 := fun n hn => by
    simp only [pE, pBad]
    simp
    omega
  have hz : ∀ n : Nat, (0 : Int) ≤ n := fun n => by omega
  have e : confL lp lw lc ++ r = hd ++ (pS lp.length 1 ++ (cat2 2 1 lp ++ (pS lw.length 1 ++ (cat2 1 1 lw ++ (pS lc.length 1 ++ (cat4 lc ++ r)))))) := by
    simp only [confL, ByteArray.append_assoc]
  rw [e]
  generalize hs : hd ++ (pS lp.length 1 ++ (cat2 2 1 lp ++ (pS lw.length 1 ++ (cat2 1 1 lw ++ (pS lc.length 1 ++ (cat4 lc ++ r)))))) = s
  have q0 : sH s = ⟨pS lp.length 1 ++ (cat2 2 1 lp ++ (pS lw.length 1 ++ (cat2 1 1 lw ++ (pS lc.length 1 ++ (cat4 lc ++ r))))), true⟩ := by rw [← hs]; exact sH_app _
  have n1 := num_step lp.length 1 (cat2 2 1 lp ++ (pS lw.length 1 ++ (cat2 1 1 lw ++ (pS lc.length 1 ++ (cat4 lc ++ r))))) (hz _) (pe _ h1)
  have k1 := el2_app 2 1 lp (pS lw.length 1 ++ (cat2 1 1 lw ++ (pS lc.length 1 ++ (cat4 lc ++ r)))) g1
  have q1 : lP s = lp := by unfold lP; rw [q0, n1.1, n1.2, Int.toNat_natCast, k1.1]
  have p1 : sP s = ⟨pS lw.length 1 ++ (cat2 1 1 lw ++ (pS lc.length 1 ++ (cat4 lc ++ r))), true⟩ := by unfold sP; rw [q0, n1.1, n1.2, Int.toNat_natCast, k1.2]
  have n2 := num_step lw.length 1 (cat2 1 1 lw ++ (pS lc.length 1 ++ (cat4 lc ++ r))) (hz _) (pe _ h2)
  have k2 := el2_app 1 1 lw (pS lc.length 1 ++ (cat4 lc ++ r)) g2
  have q2 : lW s = lw := by unfold lW; rw [p1, n2.1, n2.2, Int.toNat_natCast, k2.1]
  have p2 : sW s = ⟨pS lc.length 1 ++ (cat4 lc ++ r), true⟩ := by unfold sW; rw [p1, n2.1, n2.2, Int.toNat_natCast, k2.2]
  have n3 := num_step lc.length 1 (cat4 lc ++ r) (hz _) (pe _ h3)
  have k3 := el4_app lc r g3
  have q3 : lC s = lc := by unfold lC; rw [p2, n3.1, n3.2, Int.toNat_natCast, k3.1]
  have p3 : sC s = ⟨r, true⟩ := by unfold sC; rw [p2, n3.1, n3.2, Int.toNat_natCast, k3.2]
  exact ⟨q1, q2, q3, p3⟩
theorem confL_back (s : ByteArray) (h : (sC s).f = true) : s = confL (lP s) (lW s) (lC s) ++ (sC s).t ∧ (∀ x ∈ lP s, ok2 2 1 x) ∧ (∀ x ∈ lW s, ok2 1 1 x) ∧ ∀ x ∈ lC s, ok4 x := by
  obtain ⟨c1, c2, c3, c4⟩ := el4_back _ _ h
  obtain ⟨n1, n2, n3, n4, n5⟩ := num_back (sW s) 1 c1
  obtain ⟨w1, w2, w3, w4⟩ := el2_back 1 1 _ _ n1
  obtain ⟨m1, m2, m3, m4, m5⟩ := num_back (sP s) 1 w1
  obtain ⟨p1, p2, p3, p4⟩ := el2_back 2 1 _ _ m1
  obtain ⟨l1, l2, l3, l4, l5⟩ := num_back (sH s) 1 p1
  have hh := sH_back s l1
  have e1 : ((lP s).length : Int) = nv (sH s) 1 := by show ((el2 2 1 (nv (sH s) 1).toNat (nx (sH s) 1)).length : Int) = _; rw [p2]; omega
  have e2 : ((lW s).length : Int) = nv (sP s) 1 := by show ((el2 1 1 (nv (sP s) 1).toNat (nx (sP s) 1)).length : Int) = _; rw [w2]; omega
  have e3 : ((lC s).length : Int) = nv (sW s) 1 := by show ((el4 (nv (sW s) 1).toNat (nx (sW s) 1)).length : Int) = _; rw [c2]; omega
  refine ⟨?_, p4, w4, c4⟩
  simp only [confL, e1, e2, e3, ByteArray.append_assoc]
  have c3' : (nx (sW s) 1).t = cat4 (lC s) ++ (sC s).t := c3
  have w3' : (nx (sP s) 1).t = cat2 1 1 (lW s) ++ (sW s).t := w3
  have p3' : (nx (sH s) 1).t = cat2 2 1 (lP s) ++ (sP s).t := p3
  rw [← c3', ← n5, ← w3', ← m5, ← p3', ← l5]
  exact hh
/-- a configuration's lists -/
def plP (C : Cfg) : List (Int × Int) := (List.range C.nP).map fun i => (C.q i, C.s i)
def plW (C : Cfg) : List (Int × Int) := (List.range C.nW).map fun i => (C.wp i, C.wt i)
def plC (C : Cfg) : List (Int × Int × Int × Int) := (List.range C.nC).map fun i => (C.cf i, C.ct i, C.cc i, C.cw i)
theorem range_getD {α : Type} (l : List α) (d : α) : (List.range l.length).map (fun i => l.getD i d) = l := by
  apply List.ext_getElem?
  intro i
  by_cases h : i < l.length
  · simp [h]
  · simp [h]
theorem plP_rd (s : ByteArray) : plP (rdC s) = lP s := range_getD (lP s) (0, 0)
theorem plW_rd (s : ByteArray) : plW (rdC s) = lW s := range_getD (lW s) (0, 0)
theorem plC_rd (s : ByteArray) : plC (rdC s) = lC s := range_getD (lC s) (0, 0, 0, 0)
theorem map_range_eq {α : Type} (F G : Nat → α) (n m : Nat) : (List.range n).map F = (List.range m).map G ↔ n = m ∧ ∀ i, i < n → F i = G i := by
  constructor
  · intro h
    have hl := congrArg List.length h
    simp at hl
    subst hl
    refine ⟨rfl, fun i hi => ?_⟩
    have := congrArg (fun l => l[i]?) h
    simpa [hi] using this
  · rintro ⟨rfl, h⟩
    apply List.map_congr_left
    intro i hi
    exact h i (List.mem_range.1 hi)
theorem same_iff (C D : Cfg) : sameB C D = true ↔ plP C = plP D ∧ plW C = plW D ∧ plC C = plC D := by
  unfold sameB eq2 eq4 plP plW plC
  rw [map_range_eq, map_range_eq, map_range_eq]
  simp only [Bool.and_eq_true, decide_eq_true_eq, Prod.mk.injEq]
theorem ac2_cat2 (S : ByteArray) (X Y : Nat → Int) (a : Int) : ∀ k, ac2 S X Y a k = S ++ cat2 a 1 ((List.range k).map fun i => (X i, Y i))
  | 0 => by simp [ac2, cat2]; exact ByteArray.append_empty.symm
  | k + 1 => by
    have snoc : ∀ (l : List (Int × Int)) (x : Int × Int), cat2 a 1 (l ++ [x]) = cat2 a 1 l ++ (pS x.1 a ++ pS x.2 1) := by
      intro l x
      induction l with
      | nil => simp only [List.nil_append, cat2, emp_app]; rw [show (⟨#[]⟩ : ByteArray) = ByteArray.empty from rfl, ByteArray.append_empty]
      | cons y l ih => simp only [List.cons_append, cat2, ih, ByteArray.append_assoc]
    rw [List.range_succ, List.map_append]
    simp only [ac2, List.map_cons, List.map_nil, snoc, ac2_cat2 S X Y a k, ByteArray.append_assoc]
theorem ac4_cat4 (S : ByteArray) (X Y Z U : Nat → Int) : ∀ k, ac4 S X Y Z U k = S ++ cat4 ((List.range k).map fun i => (X i, Y i, Z i, U i))
  | 0 => by simp [ac4, cat4]; exact ByteArray.append_empty.symm
  | k + 1 => by
    have snoc : ∀ (l : List (Int × Int × Int × Int)) (x : Int × Int × Int × Int), cat4 (l ++ [x]) = cat4 l ++ (pS x.1 1 ++ (pS x.2.1 1 ++ (pS x.2.2.1 1 ++ pS x.2.2.2 1))) := by
      intro l x
      induction l with
      | nil => simp only [List.nil_append, cat4, emp_app]; rw [show (⟨#[]⟩ : ByteArray) = ByteArray.empty from rfl, ByteArray.append_empty]
      | cons y l ih => simp only [List.cons_append, cat4, ih, ByteArray.append_assoc]
    rw [List.range_succ, List.map_append]
    simp only [ac4, List.map_cons, List.map_nil, snoc, ac4_cat4 S X Y Z U k, ByteArray.append_assoc]
theorem confS_L (C : Cfg) : confS C = confL (plP C) (plW C) (plC C) := by
  rw [← bC_conf]
  unfold bC bW bP
  rw [ac4_cat4, ac2_cat2, ac2_cat2]
  have l1 : (plP C).length = C.nP := by simp [plP]
  have l2 : (plW C).length = C.nW := by simp [plW]
  have l3 : (plC C).length = C.nC := by simp [plC]
  unfold confL
  rw [l1, l2, l3]
  simp only [plP, plW, plC, hd, ByteArray.append_assoc]
end Go.Proofs.Ythgoighpmnecbaa
namespace Go.Proofs.Ythgoighpmnecbaa
open Go.RowKit Go.Proofs.YthgoighpmnecbaaW.PrintWords
set_option linter.unusedVariables false
set_option linter.unusedSimpArgs false
theorem same_refl (C : Cfg) : sameB C C = true := (same_iff C C).2 ⟨rfl, rfl, rfl⟩
theorem same_symm {C D : Cfg} (h : sameB C D = true) : sameB D C = true := by
  obtain ⟨a, b, c⟩ := (same_iff C D).1 h
  exact (same_iff D C).2 ⟨a.symm, b.symm, c.symm⟩
theorem same_parts {C D : Cfg} (h : sameB C D = true) : C.nP = D.nP ∧ C.nW = D.nW ∧ C.nC = D.nC ∧ (∀ i, i < C.nP → C.q i = D.q i ∧ C.s i = D.s i) ∧ (∀ i, i < C.nW → C.wp i = D.wp i ∧ C.wt i = D.wt i) ∧ ∀ i, i < C.nC → C.cf i = D.cf i ∧ C.ct i = D.ct i ∧ C.cc i = D.cc i ∧ C.cw i = D.cw i := by
  unfold sameB eq2 eq4 at h
  simp only [Bool.and_eq_true, decide_eq_true_eq] at h
  exact ⟨h.1.1, h.2.1.1, h.2.2.1, h.1.2, h.2.1.2, h.2.2.2⟩
theorem num_congr1 {C D : Cfg} (h : sameB C D = true) (hC : NumOk C) : NumOk D := by
  obtain ⟨n1, n2, n3, f1, f2, f3⟩ := same_parts h
  obtain ⟨a, b, c, d, e⟩ := hC
  refine ⟨by simpa only [okN, n1, n2, n3] using a, fun i hi => ?_, fun i hi => ?_, fun i hi => ?_, fun i hi => ?_⟩
  · have := b i (by omega)
    simpa only [okP, (f1 i (by omega)).1, (f1 i (by omega)).2] using this
  · have := c i (by omega)
    simpa only [okW, (f2 i (by omega)).1, (f2 i (by omega)).2, n1] using this
  · have := d i (by omega)
    rw [← n2]
    simp only [seenB, List.any_eq_true, List.mem_range, beq_iff_eq] at this ⊢
    obtain ⟨j, hj, e⟩ := this
    exact ⟨j, hj, by rw [← (f2 j hj).1]; exact e⟩
  · have := e i (by omega)
    have g := f3 i (by omega)
    simpa only [okC, g.1, g.2.1, g.2.2.1, g.2.2.2, n1] using this
theorem num_congr {C D : Cfg} (h : sameB C D = true) : NumOk C ↔ NumOk D := ⟨num_congr1 h, num_congr1 (same_symm h)⟩
theorem sumF_congr {f g : Nat → Int} : ∀ n, (∀ i, i < n → f i = g i) → sumF f n = sumF g n
  | 0, _ => rfl
  | n + 1, h => by simp only [sumF]; rw [sumF_congr n (fun i hi => h i (by omega)), h n (by omega)]
theorem fr_congr {C D : Cfg} (h : sameB C D = true) : frE C = frE D := by
  obtain ⟨n1, n2, n3, f1, f2, f3⟩ := same_parts h
  by_cases hC : NumOk C
  · rw [frE_ok hC, frE_ok ((num_congr h).1 hC), ← n1, ← n3]
    rw [sumF_congr (f := fP C) (g := fP D) C.nP (fun i hi => by unfold fP; rw [(f1 i hi).1, (f1 i hi).2]), sumF_congr (f := fC C) (g := fC D) C.nC (fun i hi => by unfold fC; rw [(f3 i hi).2.2.1, (f3 i hi).2.2.2])]
  · rw [frE_bad hC, frE_bad fun hD => hC ((num_congr h).2 hD)]
theorem ck_congr {C D : Cfg} (h : sameB C D = true) : ckE C = ckE D := by
  have hf := fr_congr h
  by_cases hC : NumOk C
  · have hD := (num_congr h).1 hC
    by_cases g : 1024 < frE C
    · rw [ckE_full hC g, ckE_full hD (by omega)]
    · rw [ckE_ok ⟨hC, by omega⟩, ckE_ok ⟨hD, by omega⟩]
  · rw [ckE_bad hC, ckE_bad fun hD => hC ((num_congr h).2 hD)]
theorem ckOk_congr {C D : Cfg} (h : sameB C D = true) (hC : CkOk C) : CkOk D := ⟨(num_congr h).1 hC.1, by rw [← fr_congr h]; exact hC.2⟩
theorem ckE_zero {C : Cfg} (h : ckE C = 0) : CkOk C := by
  rcases ckE_cases C with ⟨h', _⟩ | ⟨_, h' | h'⟩
  · exact h'
  · omega
  · omega
theorem pE_ok {n k : Int} (h1 : n < 256 ^ k.toNat) (hk : 1 ≤ k) (hk4 : k ≤ 4) : pE n k = 0 := by
  simp only [pE, pBad]
  simp
  omega
theorem pl_ok2 {C : Cfg} (h : NumOk C) : (∀ x ∈ plP C, ok2 2 1 x) ∧ (∀ x ∈ plW C, ok2 1 1 x) ∧ ∀ x ∈ plC C, ok4 x := by
  have hN := h.N
  refine ⟨fun x hx => ?_, fun x hx => ?_, fun x hx => ?_⟩
  · obtain ⟨i, hi, rfl⟩ := List.mem_map.1 hx
    have := h.P (List.mem_range.1 hi)
    exact ⟨⟨by show 0 ≤ C.q i; omega, pE_ok (by show C.q i < 65536; omega) (by decide) (by decide)⟩, by show 0 ≤ C.s i; omega, pE_ok (by show C.s i < 256; omega) (by decide) (by decide)⟩
  · obtain ⟨i, hi, rfl⟩ := List.mem_map.1 hx
    have := h.W (List.mem_range.1 hi)
    exact ⟨⟨by show 0 ≤ C.wp i; omega, pE_ok (by show C.wp i < 256; omega) (by decide) (by decide)⟩, by show 0 ≤ C.wt i; omega, pE_ok (by show C.wt i < 256; omega) (by decide) (by decide)⟩
  · obtain ⟨i, hi, rfl⟩ := List.mem_map.1 hx
    have := h.C (List.mem_range.1 hi)
    exact ⟨⟨by show 0 ≤ C.cf i; omega, pE_ok (by show C.cf i < 256; omega) (by decide) (by decide)⟩, ⟨by show 0 ≤ C.ct i; omega, pE_ok (by show C.ct i < 256; omega) (by decide) (by decide)⟩, ⟨by show 0 ≤ C.cc i; omega, pE_ok (by show C.cc i < 256; omega) (by decide) (by decide)⟩, by show 0 ≤ C.cw i; omega, pE_ok (by show C.cw i < 256; omega) (by decide) (by decide)⟩
theorem confS_app {C : Cfg} (h : NumOk C) (r : ByteArray) : sameB C (rdC (confS C ++ r)) = true ∧ sC (confS C ++ r) = ⟨r, true⟩ := by
  have hN := h.N
  obtain ⟨g1, g2, g3⟩ := pl_ok2 h
  have l1 : (plP C).length = C.nP := by simp [plP]
  have l2 : (plW C).length = C.nW := by simp [plW]
  have l3 : (plC C).length = C.nC := by simp [plC]
  obtain ⟨e1, e2, e3, e4⟩ := confL_app (plP C) (plW C) (plC C) r (by omega) (by omega) (by omega) g1 g2 g3
  rw [← confS_L] at e1 e2 e3 e4
  exact ⟨(same_iff _ _).2 ⟨by rw [plP_rd, e1], by rw [plW_rd, e2], by rw [plC_rd, e3]⟩, e4⟩
theorem app_emp (s : ByteArray) : s ++ (⟨#[]⟩ : ByteArray) = s := ByteArray.append_empty
theorem put_get {C : Cfg} (h : CkOk C) : gtE (confS C) = 0 ∧ sameB C (gtC (confS C)) = true := by
  have k := confS_app h.1 ⟨#[]⟩
  rw [app_emp] at k
  have hf : frmB (confS C) = true := by
    unfold frmB
    rw [k.2]
    rfl
  have hE : gtE (confS C) = 0 := by
    unfold gtE
    rw [if_pos hf, ← ck_congr k.1]
    exact ckE_ok h
  refine ⟨hE, ?_⟩
  unfold gtC
  rw [if_pos hE]
  exact k.1
theorem put_more {C : Cfg} (h : NumOk C) {r : ByteArray} (hr : r.size ≠ 0) : gtE (confS C ++ r) = 6 := by
  have k := (confS_app h r).2
  have hf : frmB (confS C ++ r) = false := by
    unfold frmB
    rw [k]
    simpa using hr
  simp [gtE, hf]
theorem frm_back {s : ByteArray} (h : frmB s = true) : s = confS (rdC s) ∧ (∀ x ∈ lP s, ok2 2 1 x) ∧ (∀ x ∈ lW s, ok2 1 1 x) ∧ ∀ x ∈ lC s, ok4 x := by
  unfold frmB at h
  simp only [Bool.and_eq_true, beq_iff_eq] at h
  obtain ⟨e, g⟩ := confL_back s h.1
  refine ⟨?_, g⟩
  rw [confS_L, plP_rd, plW_rd, plC_rd]
  have : (sC s).t = ⟨#[]⟩ := by
    apply ByteArray.ext
    apply Array.toList_inj.1
    have : (sC s).t.data.toList.length = 0 := by rw [Array.length_toList]; exact h.2
    exact List.length_eq_zero_iff.1 this
  rw [this, app_emp] at e
  exact e
theorem put_cut {C : Cfg} (h : NumOk C) {k : Nat} (hk : k < (confS C).size) : gtE ((confS C).extract 0 k) = 6 := by
  by_cases hf : frmB ((confS C).extract 0 k) = true
  · exfalso
    obtain ⟨e, g1, g2, g3⟩ := frm_back hf
    have hz : ((confS C).extract 0 k).size = k := by rw [ByteArray.size_extract]; omega
    generalize hp : (confS C).extract 0 k = p at *
    have hr : ((confS C).extract k (confS C).size).size = (confS C).size - k := by rw [ByteArray.size_extract]; omega
    have hs : confS C = p ++ (confS C).extract k (confS C).size := by
      rw [← hp, ByteArray.extract_append_extract]
      simp
    generalize (confS C).extract k (confS C).size = r at *
    have l1 := lP_len p
    have l2 := lW_len p
    have l3 := lC_len p
    obtain ⟨_, _, _, e4⟩ := confL_app (lP p) (lW p) (lC p) r (by omega) (by omega) (by omega) g1 g2 g3
    have e' : confL (lP p) (lW p) (lC p) = p := by
      have := confS_L (rdC p)
      rw [plP_rd, plW_rd, plC_rd] at this
      rw [← this]
      exact e.symm
    rw [e', ← hs] at e4
    have k2 := (confS_app h ⟨#[]⟩).2
    rw [app_emp, e4] at k2
    have : r = ⟨#[]⟩ := congrArg St.t k2
    have : r.size = 0 := by rw [this]; rfl
    omega
  · simp [gtE, hf]
theorem get_put {s : ByteArray} (h : gtE s = 0) : CkOk (gtC s) ∧ putS (gtC s) = s := by
  have hf : frmB s = true := by
    by_cases hf : frmB s = true
    · exact hf
    · simp [gtE, hf] at h
  have hc : gtC s = rdC s := by unfold gtC; rw [if_pos h]
  have hk : CkOk (rdC s) := ckE_zero (by unfold gtE at h; rwa [if_pos hf] at h)
  rw [hc]
  refine ⟨hk, ?_⟩
  rw [show putS (rdC s) = confS (rdC s) from if_pos hk]
  exact (frm_back hf).1.symm
theorem confS_congr {C D : Cfg} (h : sameB C D = true) : confS C = confS D := by
  obtain ⟨a, b, c⟩ := (same_iff C D).1 h
  rw [confS_L, confS_L, a, b, c]
theorem put_inj {C D : Cfg} (hC : NumOk C) (hD : NumOk D) (h : confS C = confS D) : sameB C D = true := by
  have k1 := (confS_app hC ⟨#[]⟩).1
  have k2 := (confS_app hD ⟨#[]⟩).1
  rw [app_emp] at k1 k2
  rw [h] at k1
  obtain ⟨a, b, c⟩ := (same_iff _ _).1 k1
  obtain ⟨a', b', c'⟩ := (same_iff _ _).1 k2
  exact (same_iff _ _).2 ⟨a.trans a'.symm, b.trans b'.symm, c.trans c'.symm⟩
theorem cat2_size (a : Int) : ∀ l : List (Int × Int), (∀ x ∈ l, ok2 a 1 x) → ((cat2 a 1 l).size : Int) = (a + 1) * l.length
  | [], _ => by show ((0 : Nat) : Int) = (a + 1) * ((0 : Nat) : Int); simp
  | x :: l, h => by
    obtain ⟨⟨_, h2⟩, _, h4⟩ := h x (by simp)
    have ih := cat2_size a l fun y hy => h y (by simp [hy])
    have z1 := pS_size h2
    have z2 := pS_size h4
    have g1 := (good h2).1
    simp only [cat2, ByteArray.size_append, List.length_cons]
    have e : (a + 1) * ((l.length + 1 : Nat) : Int) = (a + 1) * l.length + (a + 1) := by rw [Int.natCast_add, Int.mul_add]; simp
    rw [e]
    omega
theorem cat4_size : ∀ l : List (Int × Int × Int × Int), (∀ x ∈ l, ok4 x) → (cat4 l).size = 4 * l.length
  | [], _ => rfl
  | x :: l, h => by
    obtain ⟨⟨_, h2⟩, ⟨_, h4⟩, ⟨_, h6⟩, _, h8⟩ := h x (by simp)
    have ih := cat4_size l fun y hy => h y (by simp [hy])
    have z1 := pS_size h2
    have z2 := pS_size h4
    have z3 := pS_size h6
    have z4 := pS_size h8
    simp only [cat4, ByteArray.size_append, List.length_cons]
    omega
theorem confS_size {C : Cfg} (h : NumOk C) : (confS C).size = 6 + 3 * C.nP + 2 * C.nW + 4 * C.nC := by
  have hN := h.N
  obtain ⟨g1, g2, g3⟩ := pl_ok2 h
  have l1 : (plP C).length = C.nP := by simp [plP]
  have l2 : (plW C).length = C.nW := by simp [plW]
  have l3 : (plC C).length = C.nC := by simp [plC]
  have c1 := cat2_size 2 _ g1
  have c2 := cat2_size 1 _ g2
  have c3 := cat4_size _ g3
  have p1 := pS_size (n := C.nP) (v := 1) (pE_ok (by show (C.nP : Int) < 256; omega) (by decide) (by decide))
  have p2 := pS_size (n := C.nW) (v := 1) (pE_ok (by show (C.nW : Int) < 256; omega) (by decide) (by decide))
  have p3 := pS_size (n := C.nC) (v := 1) (pE_ok (by show (C.nC : Int) < 256; omega) (by decide) (by decide))
  have hh : hd.size = 3 := rfl
  rw [confS_L]
  unfold confL
  simp only [ByteArray.size_append, l1, l2, l3] at *
  omega
end Go.Proofs.Ythgoighpmnecbaa
namespace Go.Proofs.Ythgoighpmnecbaa
open Go.RowKit
set_option linter.unusedVariables false
set_option linter.unusedSimpArgs false
/-- the document's example -/
def oneC : Cfg := ⟨1, 1, 0, fun _ => 4, fun _ => 1, fun _ => 0, fun _ => 1, fun _ => 0, fun _ => 0, fun _ => 0, fun _ => 0⟩
def oneS : ByteArray := ⟨#[80, 82, 49, 1, 0, 4, 1, 1, 0, 1, 0]⟩
theorem one_num : NumOk oneC := by
  refine ⟨by decide, fun i hi => ?_, fun i hi => ?_, fun i hi => ?_, fun i hi => ?_⟩
  · show okP oneC i = true
    decide +revert
  · show okW oneC i = true
    decide +revert
  · have : i = 0 := by have : i < 1 := hi; omega
    subst this
    decide
  · have : i < 0 := hi
    omega
theorem one_fr : frE oneC = 5 := by
  rw [frE_ok one_num]
  decide
theorem one_ok : CkOk oneC := ⟨one_num, by rw [one_fr]; decide⟩
theorem one_put : putS oneC = oneS := by
  rw [show putS oneC = confS oneC from if_pos one_ok]
  decide
theorem one_conf : confS oneC = oneS := by
  rw [← one_put, show putS oneC = confS oneC from if_pos one_ok]
theorem gtE_one : gtE oneS = 0 := by rw [← one_conf]; exact (put_get one_ok).1
theorem same_one : sameB (gtC oneS) oneC = true := by rw [← one_conf]; exact same_symm (put_get one_ok).2
theorem gtE_pr1 : gtE ⟨#[80, 82, 49]⟩ = 6 := by
  have h := put_cut one_num (k := 3) (by rw [one_conf]; decide)
  rw [one_conf] at h
  have e : oneS.extract 0 3 = ⟨#[80, 82, 49]⟩ := by decide
  rwa [e] at h
end Go.Proofs.Ythgoighpmnecbaa
namespace Go.Proofs.Ythgoighpmnecbaa
open Go.RowKit
set_option linter.unusedVariables false
set_option linter.unusedSimpArgs false
theorem one_any (w : World) :
    Calls Try.prog 21 #[] w fun e w' => ∃ b c : Nat, e = .returned (.agg #[.slice (some ⟨b, 0, none⟩) 1 1, .slice (some ⟨c, 0, none⟩) 1 1, .slice none 0 0]) ∧ IsC w' oneC ⟨some ⟨b, 0, none⟩, 1, some ⟨c, 0, none⟩, 1, none, 0⟩ ∧ Below w.heap.size w w' := by
  go_enter Try.func21, Try.ntmps21
  go_wp2_with fail
  (try simp only [Exit.inBlock, Exit.then])
  refine bodyPost_ret (res_c (ty := 26) rfl _ _ w.heap.size _ _ _ _ (by rfl) (bk_alloc (bk_alloc (bk_new w _) _) _) Try.underlying26 rfl (by kernel_rfl)) rfl ?_
  refine ⟨w.heap.size + 1, w.heap.size + 1 + 1, rfl, ⟨.inr ⟨_, 0, rfl, fun i hi => ?_⟩, .inr ⟨_, 0, rfl, fun i hi => ?_⟩, .inl rfl⟩, by go_grown⟩
  · obtain rfl : i = 0 := by have : i < 1 := hi; omega
    have h := bk_alloc (bk_new (w.alloc (.cells #[.slice (some ⟨w.heap.size + 1, 0, none⟩) 1 1, .slice (some ⟨w.heap.size + 1 + 1, 0, none⟩) 1 1, .slice none 0 0] 26)) (.cells #[.int .i64 4, .int .i64 1] 41)) (.cells #[.int .i64 0, .int .i64 1] 44)
    rw [World.size_alloc] at h
    exact ⟨(bk_cell h 0).trans rfl, (bk_cell h 1).trans rfl⟩
  · obtain rfl : i = 0 := by have : i < 1 := hi; omega
    have h := bk_new ((w.alloc (.cells #[.slice (some ⟨w.heap.size + 1, 0, none⟩) 1 1, .slice (some ⟨w.heap.size + 1 + 1, 0, none⟩) 1 1, .slice none 0 0] 26)).alloc (.cells #[.int .i64 4, .int .i64 1] 41)) (.cells #[.int .i64 0, .int .i64 1] 44)
    rw [World.size_alloc, World.size_alloc] at h
    exact ⟨(bk_cell h 0).trans rfl, (bk_cell h 1).trans rfl⟩
theorem long_any (C : Cfg) (ly : Lay) (w : World) :
    Calls Try.prog 9 #[.agg (cfgV C ly)] w fun e w' => e = .returned (.bool (decide (100 < C.nP) || (decide (100 < C.nW) || decide (100 < C.nC)))) ∧ Below w.heap.size w w' := by
  obtain ⟨pP, cP, pW, cW, pC, cC⟩ := ly
  unfold cfgV
  simp only
  have i1 : decide ((100 : Int) < C.nP) = decide (100 < C.nP) := by congr 1; simp; omega
  have i2 : decide ((100 : Int) < C.nW) = decide (100 < C.nW) := by congr 1; simp; omega
  have i3 : decide ((100 : Int) < C.nC) = decide (100 < C.nC) := by congr 1; simp; omega
  by_cases a : 100 < C.nP
  · have a' : (100 : Int) < C.nP := by omega
    clear i1 i2 i3
    go_enter Try.func9, Try.ntmps9
    go_wp2
    go_ret
    exact ⟨by simp [a], by go_grown⟩
  · have a' : ¬ (100 : Int) < C.nP := by omega
    by_cases b : 100 < C.nW
    · have b' : (100 : Int) < C.nW := by omega
      clear i1 i2 i3
      go_enter Try.func9, Try.ntmps9
      go_wp2
      go_ret
      exact ⟨by simp [a, b], by go_grown⟩
    · have b' : ¬ (100 : Int) < C.nW := by omega
      clear i1 i2
      go_enter Try.func9, Try.ntmps9
      go_wp2
      go_ret
      exact ⟨by simp [a, b], by go_grown⟩
set_option maxHeartbeats 4000000 in
theorem awake_any (w : World) :
    Calls Try.prog 10 #[] w fun e w' => e = .returned (.bool true) ∧ Below w.heap.size w w' := by
  have HP := Lib.hid fun (W : World) (b c : Nat) (h : IsC W oneC ⟨some ⟨b, 0, none⟩, 1, some ⟨c, 0, none⟩, 1, none, 0⟩) => show Calls Try.prog 11 #[.agg #[.slice (some ⟨b, 0, none⟩) 1 1, .slice (some ⟨c, 0, none⟩) 1 1, .slice none 0 0]] W fun e w' => e = .returned (.tuple #[.string ⟨#[80, 82, 49, 1, 0, 4, 1, 1, 0, 1, 0]⟩, .int .i64 0]) ∧ Below W.heap.size W w' by
    have := cfput_any oneC ⟨some ⟨b, 0, none⟩, 1, some ⟨c, 0, none⟩, 1, none, 0⟩ W h (by decide)
    rw [show putS oneC = ⟨#[80, 82, 49, 1, 0, 4, 1, 1, 0, 1, 0]⟩ from one_put, ckE_ok one_ok] at this
    exact this
  have HF := Lib.hid fun (W : World) (b c : Nat) (h : IsC W oneC ⟨some ⟨b, 0, none⟩, 1, some ⟨c, 0, none⟩, 1, none, 0⟩) => show Calls Try.prog 15 #[.agg #[.slice (some ⟨b, 0, none⟩) 1 1, .slice (some ⟨c, 0, none⟩) 1 1, .slice none 0 0]] W fun e w' => e = .returned (.int .i64 5) ∧ Below W.heap.size W w' by
    have := frames_any oneC ⟨some ⟨b, 0, none⟩, 1, some ⟨c, 0, none⟩, 1, none, 0⟩ W h (by decide)
    rw [one_fr] at this
    exact this
  have hnP : (gtC ⟨#[80, 82, 49, 1, 0, 4, 1, 1, 0, 1, 0]⟩).nP ≤ 1000000 ∧ (gtC ⟨#[80, 82, 49, 1, 0, 4, 1, 1, 0, 1, 0]⟩).nW ≤ 1000000 ∧ (gtC ⟨#[80, 82, 49, 1, 0, 4, 1, 1, 0, 1, 0]⟩).nC ≤ 1000000 := by
    have := same_parts (show sameB (gtC ⟨#[80, 82, 49, 1, 0, 4, 1, 1, 0, 1, 0]⟩) oneC = true from same_one)
    rw [this.1, this.2.1, this.2.2.1]
    decide
  have HS := Lib.hid fun (W : World) (p q r : Option Addr) (n1 n2 n3 c1 c2 c3 : Nat) (hn : n1 = (gtC ⟨#[80, 82, 49, 1, 0, 4, 1, 1, 0, 1, 0]⟩).nP ∧ n2 = (gtC ⟨#[80, 82, 49, 1, 0, 4, 1, 1, 0, 1, 0]⟩).nW ∧ n3 = (gtC ⟨#[80, 82, 49, 1, 0, 4, 1, 1, 0, 1, 0]⟩).nC) (b c : Nat) (h0 : IsC W (gtC ⟨#[80, 82, 49, 1, 0, 4, 1, 1, 0, 1, 0]⟩) ⟨p, c1, q, c2, r, c3⟩) (h : IsC W oneC ⟨some ⟨b, 0, none⟩, 1, some ⟨c, 0, none⟩, 1, none, 0⟩) => show Calls Try.prog 17 #[.agg #[.slice p n1 c1, .slice q n2 c2, .slice r n3 c3], .agg #[.slice (some ⟨b, 0, none⟩) 1 1, .slice (some ⟨c, 0, none⟩) 1 1, .slice none 0 0]] W fun e w' => e = .returned (.bool true) ∧ Below W.heap.size W w' by
    obtain ⟨rfl, rfl, rfl⟩ := hn
    have := cfsame_any (gtC ⟨#[80, 82, 49, 1, 0, 4, 1, 1, 0, 1, 0]⟩) oneC ⟨p, c1, q, c2, r, c3⟩ ⟨some ⟨b, 0, none⟩, 1, some ⟨c, 0, none⟩, 1, none, 0⟩ W h0 h hnP
    rw [show sameB (gtC ⟨#[80, 82, 49, 1, 0, 4, 1, 1, 0, 1, 0]⟩) oneC = true from same_one] at this
    exact this
  clear hnP
  go_enter Try.func10, Try.ntmps10
  go_wp2_with fail
  refine (one_any _).mono ?_; rintro e w1 ⟨b, c, rfl, h1, b1⟩
  go_wp2_with fail
  refine (HP.out _ _ _ h1).mono ?_; rintro e w2 ⟨rfl, b2⟩
  have HB2 := Lib.hid (bstep b1 b2)
  clear h1 b1 b2
  go_wp2_with fail
  refine (get_any ⟨#[80, 82, 49]⟩ _ (by decide)).mono ?_; rintro e w3 ⟨⟨pP, cP, pW, cW, pC, cC⟩, rfl, h3, b3⟩
  have HB3 := Lib.hid (bstep HB2.out b3)
  rw [gtE_pr1]
  clear h3 b3
  unfold cfgV
  generalize gtC ⟨#[80, 82, 49]⟩ = G
  go_wp2_with fail
  refine (get_any ⟨#[80, 82, 49, 1, 0, 4, 1, 1, 0, 1, 0]⟩ _ (by decide)).mono ?_; rintro e w4 ⟨⟨qP, dP, qW, dW, qC, dC⟩, rfl, h4, b4⟩
  have HB4 := Lib.hid (bstep (HB3.out.alloc HB3.out.size _) b4)
  rw [show gtE ⟨#[80, 82, 49, 1, 0, 4, 1, 1, 0, 1, 0]⟩ = 0 from gtE_one]
  have h4' := h4.below (w' := w4.alloc (.cells (cfgV (gtC ⟨#[80, 82, 49, 1, 0, 4, 1, 1, 0, 1, 0]⟩) ⟨qP, dP, qW, dW, qC, dC⟩) 26)) (by go_grown)
  have hd4 := bk_new w4 (.cells (cfgV (gtC ⟨#[80, 82, 49, 1, 0, 4, 1, 1, 0, 1, 0]⟩) ⟨qP, dP, qW, dW, qC, dC⟩) 26)
  have HI := Lib.hid h4'
  have HD := Lib.hid hd4
  clear h4 b4 h4' hd4
  unfold cfgV at *
  have HQ := Lib.hid (fun (W : World) (b c : Nat) (h0 : IsC W (gtC ⟨#[80, 82, 49, 1, 0, 4, 1, 1, 0, 1, 0]⟩) ⟨qP, dP, qW, dW, qC, dC⟩) (h : IsC W oneC ⟨some ⟨b, 0, none⟩, 1, some ⟨c, 0, none⟩, 1, none, 0⟩) => HS.out W qP qW qC _ _ _ dP dW dC ⟨rfl, rfl, rfl⟩ b c h0 h)
  clear HS
  generalize gtC ⟨#[80, 82, 49, 1, 0, 4, 1, 1, 0, 1, 0]⟩ = G2 at *
  go_wp2_with fail
  refine wp_abs (fun W => (W.cell? ⟨w4.heap.size, 0, none⟩ = some (.slice qP G2.nP dP) ∧ W.cell? ⟨w4.heap.size, 1, none⟩ = some (.slice qW G2.nW dW) ∧ W.cell? ⟨w4.heap.size, 2, none⟩ = some (.slice qC G2.nC dC)) ∧ IsC W G2 ⟨qP, dP, qW, dW, qC, dC⟩ ∧ Below w.heap.size w W) ?_ ?_
  · exact ⟨⟨(bk_cell HD.out 0).trans rfl, (bk_cell HD.out 1).trans rfl, (bk_cell HD.out 2).trans rfl⟩, HI.out, HB4.out.alloc HB4.out.size _⟩
  rintro W ⟨⟨y0, y1, y2⟩, y3, y4⟩
  have z0 : W.drew.cell? ⟨w4.heap.size, 0, none⟩ = some (.slice qP G2.nP dP) := y0
  have z1 : W.drew.cell? ⟨w4.heap.size, 1, none⟩ = some (.slice qW G2.nW dW) := y1
  have z2 : W.drew.cell? ⟨w4.heap.size, 2, none⟩ = some (.slice qC G2.nC dC) := y2
  have z3 : IsC W.drew G2 ⟨qP, dP, qW, dW, qC, dC⟩ := y3.below (bdrew (Below.refl _ _))
  have z4 : Below w.heap.size w W.drew := bdrew y4
  clear y0 y1 y2 y3 y4
  go_region_held3 (fun W' => W'.cell? ⟨w4.heap.size, 0, none⟩ = some (.slice qP G2.nP dP) ∧ W'.cell? ⟨w4.heap.size, 1, none⟩ = some (.slice qW G2.nW dW) ∧ W'.cell? ⟨w4.heap.size, 2, none⟩ = some (.slice qC G2.nC dC) ∧ IsC W' G2 ⟨qP, dP, qW, dW, qC, dC⟩ ∧ Below w.heap.size w W')
    (first | ((try go_split_ands); (repeat' apply And.intro) <;> first | assumption | with_reducible first | exact keepc hb (by assumption) | exact IsC.below (by assumption) hb | exact bstep (by assumption) hb | trace_state))
    (first
      | (go_at_call 21; refine (one_any _).mono ?_; rintro e1 w5 ⟨b1, c1, rfl, hone, hb⟩)
      | (go_at_call 17; (try go_split_ands); refine (HQ.out _ _ _ (by assumption) (by assumption)).mono ?_; rintro e1 w5 ⟨rfl, hb⟩)
      | (go_at_call 15; refine (HF.out _ _ _ (by assumption)).mono ?_; rintro e1 w5 ⟨rfl, hb⟩))
  all_goals
    (try go_split_ands)
    go_wp2
    go_ret
    exact ⟨by simp, by assumption⟩
end Go.Proofs.Ythgoighpmnecbaa
namespace Go.Proofs.Ythgoighpmnecbaa
open Go.RowKit
set_option linter.unusedVariables false
set_option linter.unusedSimpArgs false
theorem gtC_le (s : ByteArray) : (gtC s).nP ≤ 255 ∧ (gtC s).nW ≤ 255 ∧ (gtC s).nC ≤ 255 := by
  unfold gtC
  split
  · exact ⟨lP_len s, lW_len s, lC_len s⟩
  · exact ⟨Nat.zero_le _, Nat.zero_le _, Nat.zero_le _⟩
theorem gtC_hN (s : ByteArray) : (gtC s).nP ≤ 1000000 ∧ (gtC s).nW ≤ 1000000 ∧ (gtC s).nC ≤ 1000000 := by
  have := gtC_le s
  omega
section
variable {C D : Cfg} {p q r p' q' r' : Option Addr} {c d k c' d' k' : Nat} {w : World}
theorem putv (h : IsC w C ⟨p, c, q, d, r, k⟩) (hN : C.nP ≤ 1000000 ∧ C.nW ≤ 1000000 ∧ C.nC ≤ 1000000) : Calls Try.prog 11 #[.agg #[.slice p C.nP c, .slice q C.nW d, .slice r C.nC k]] w fun e w' => e = .returned (.tuple #[.string (putS C), .int .i64 (ckE C)]) ∧ Below w.heap.size w w' := cfput_any C ⟨p, c, q, d, r, k⟩ w h hN
theorem rputv (h : IsC w C ⟨p, c, q, d, r, k⟩) (hN : C.nP ≤ 1000000 ∧ C.nW ≤ 1000000 ∧ C.nC ≤ 1000000) : Calls Try.prog 12 #[.agg #[.slice p C.nP c, .slice q C.nW d, .slice r C.nC k]] w fun e w' => e = .returned (.tuple #[.string (putS C), .int .i64 (ckE C)]) ∧ Below w.heap.size w w' := rput6_any C ⟨p, c, q, d, r, k⟩ w h hN
theorem checkv (h : IsC w C ⟨p, c, q, d, r, k⟩) (hN : C.nP ≤ 1000000 ∧ C.nW ≤ 1000000 ∧ C.nC ≤ 1000000) : Calls Try.prog 13 #[.agg #[.slice p C.nP c, .slice q C.nW d, .slice r C.nC k]] w fun e w' => e = .returned (.int .i64 (ckE C)) ∧ Below w.heap.size w w' := check_any C ⟨p, c, q, d, r, k⟩ w h hN
theorem rcheckv (h : IsC w C ⟨p, c, q, d, r, k⟩) (hN : C.nP ≤ 1000000 ∧ C.nW ≤ 1000000 ∧ C.nC ≤ 1000000) : Calls Try.prog 14 #[.agg #[.slice p C.nP c, .slice q C.nW d, .slice r C.nC k]] w fun e w' => e = .returned (.int .i64 (ckE C)) ∧ Below w.heap.size w w' := rcheck_any C ⟨p, c, q, d, r, k⟩ w h hN
theorem framesv (h : IsC w C ⟨p, c, q, d, r, k⟩) (hN : C.nP ≤ 1000000 ∧ C.nW ≤ 1000000 ∧ C.nC ≤ 1000000) : Calls Try.prog 15 #[.agg #[.slice p C.nP c, .slice q C.nW d, .slice r C.nC k]] w fun e w' => e = .returned (.int .i64 (frE C)) ∧ Below w.heap.size w w' := frames_any C ⟨p, c, q, d, r, k⟩ w h hN
theorem rframesv (h : IsC w C ⟨p, c, q, d, r, k⟩) (hN : C.nP ≤ 1000000 ∧ C.nW ≤ 1000000 ∧ C.nC ≤ 1000000) : Calls Try.prog 16 #[.agg #[.slice p C.nP c, .slice q C.nW d, .slice r C.nC k]] w fun e w' => e = .returned (.int .i64 (frE C)) ∧ Below w.heap.size w w' := rframes_any C ⟨p, c, q, d, r, k⟩ w h hN
/-- are there more in a configuration than one may take? -/
def longB (C : Cfg) : Bool := decide (100 < C.nP) || (decide (100 < C.nW) || decide (100 < C.nC))
theorem longv : Calls Try.prog 9 #[.agg #[.slice p C.nP c, .slice q C.nW d, .slice r C.nC k]] w fun e w' => e = .returned (.bool (longB C)) ∧ Below w.heap.size w w' := long_any C ⟨p, c, q, d, r, k⟩ w
theorem samev (h : IsC w C ⟨p, c, q, d, r, k⟩) (h' : IsC w D ⟨p', c', q', d', r', k'⟩) (hN : C.nP ≤ 1000000 ∧ C.nW ≤ 1000000 ∧ C.nC ≤ 1000000) : Calls Try.prog 17 #[.agg #[.slice p C.nP c, .slice q C.nW d, .slice r C.nC k], .agg #[.slice p' D.nP c', .slice q' D.nW d', .slice r' D.nC k']] w fun e w' => e = .returned (.bool (sameB C D)) ∧ Below w.heap.size w w' := cfsame_any C D ⟨p, c, q, d, r, k⟩ ⟨p', c', q', d', r', k'⟩ w h h' hN
theorem rsamev (h : IsC w C ⟨p, c, q, d, r, k⟩) (h' : IsC w D ⟨p', c', q', d', r', k'⟩) (hN : C.nP ≤ 1000000 ∧ C.nW ≤ 1000000 ∧ C.nC ≤ 1000000) : Calls Try.prog 18 #[.agg #[.slice p C.nP c, .slice q C.nW d, .slice r C.nC k], .agg #[.slice p' D.nP c', .slice q' D.nW d', .slice r' D.nC k']] w fun e w' => e = .returned (.bool (sameB C D)) ∧ Below w.heap.size w w' := rsame_any C D ⟨p, c, q, d, r, k⟩ ⟨p', c', q', d', r', k'⟩ w h h' hN
theorem getv (s : ByteArray) (hs : s.size ≤ 140737488351232) : Calls Try.prog 19 #[.string s] w fun e w' => ∃ p c q d r k, e = .returned (.tuple #[.agg #[.slice p (gtC s).nP c, .slice q (gtC s).nW d, .slice r (gtC s).nC k], .int .i64 (gtE s)]) ∧ IsC w' (gtC s) ⟨p, c, q, d, r, k⟩ ∧ Below w.heap.size w w' := by
  refine (get_any s w hs).mono ?_
  rintro e w' ⟨⟨p, c, q, d, r, k⟩, rfl, h1, h2⟩
  exact ⟨p, c, q, d, r, k, rfl, h1, h2⟩
theorem rgetv (s : ByteArray) (hs : s.size ≤ 100000) : Calls Try.prog 20 #[.string s] w fun e w' => ∃ p c q d r k, e = .returned (.tuple #[.agg #[.slice p (gtC s).nP c, .slice q (gtC s).nW d, .slice r (gtC s).nC k], .int .i64 (gtE s)]) ∧ IsC w' (gtC s) ⟨p, c, q, d, r, k⟩ ∧ Below w.heap.size w w' := by
  refine (rget_any s w hs).mono ?_
  rintro e w' ⟨⟨p, c, q, d, r, k⟩, rfl, h1, h2⟩
  exact ⟨p, c, q, d, r, k, rfl, h1, h2⟩
end
/-- a configuration in a variable, and all that it leads to, behind w0 -/
structure CV (w : World) (b : Nat) (C : Cfg) (p : Option Addr) (c : Nat) (q : Option Addr) (d : Nat) (r : Option Addr) (k : Nat) : Prop where
  h : w.heap[b]? = some (.cells #[.slice p C.nP c, .slice q C.nW d, .slice r C.nC k] 26 (0, 0))
  i : IsC w C ⟨p, c, q, d, r, k⟩
section
variable {w w' : World} {b : Nat} {C : Cfg} {p : Option Addr} {c : Nat} {q : Option Addr} {d : Nat} {r : Option Addr} {k : Nat}
theorem CV.below (h : CV w b C p c q d r k) (hb : Below w.heap.size w w') : CV w' b C p c q d r k := ⟨bk_below h.h hb, h.i.below hb⟩
theorem CV.alloc (h : CV w b C p c q d r k) (o : Obj) : CV (w.alloc o) b C p c q d r k := h.below ((Below.refl _ _).alloc (Nat.le_refl _) _)
theorem CV.drew (h : CV w b C p c q d r k) : CV w.drew b C p c q d r k := h.below (bdrew (Below.refl _ _))
theorem CV.new (h : IsC w C ⟨p, c, q, d, r, k⟩) : CV (w.alloc (.cells #[.slice p C.nP c, .slice q C.nW d, .slice r C.nC k] 26)) w.heap.size C p c q d r k := ⟨bk_new _ _, h.below ((Below.refl _ _).alloc (Nat.le_refl _) _)⟩
theorem CV.cells (h : CV w b C p c q d r k) : w.cell? ⟨b, 0, none⟩ = some (.slice p C.nP c) ∧ w.cell? ⟨b, 1, none⟩ = some (.slice q C.nW d) ∧ w.cell? ⟨b, 2, none⟩ = some (.slice r C.nC k) ∧ b < w.heap.size :=
  ⟨(bk_cell h.h 0).trans rfl, (bk_cell h.h 1).trans rfl, (bk_cell h.h 2).trans rfl, bk_lt h.h⟩
end
end Go.Proofs.Ythgoighpmnecbaa
