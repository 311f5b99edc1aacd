/-
  Heads and their bytes: plain laws, no program in sight.
-/
import Derived.Test.YtmkpglabiikdeaaGreatLaid
namespace Go.Proofs.YtmkpglabiikdeaaGreat
open Go.RowKit PH

/-- The number of k bytes at a place. -/
def fld (S : ByteArray) (p k : Nat) : Nat := numAt (left S p) k
/-- The head that bytes say. -/
def hdOf (S : ByteArray) : Hd := ⟨fld S 4 8, fld S 12 4, fld S 16 4, fld S 20 4, fld S 24 4, fld S 28 8, fld S 36 4⟩
/-- The head of bytes, or none. -/
def getP (S : ByteArray) : Option Hd := if S.size = 128 ∧ fld S 4 8 ≤ 9223372036854775807 ∧ fld S 28 8 ≤ 9223372036854775807 ∧ okHd (hdOf S) = true ∧ headB (hdOf S) = S then some (hdOf S) else none
def inI (n : Int) : Prop := -9223372036854775808 ≤ n ∧ n ≤ 9223372036854775807
/-- A head whose numbers are numbers of Go's. -/
structure Hd.Int64 (h : Hd) : Prop where
  g : inI h.gen
  e : inI h.epoch
  s : inI h.since
  a : inI h.area
  z : inI h.size
  n : inI h.next
  p : inI h.pos
theorem Hd.Int64.nat {h : Hd} (k : h.Int64) (o : okHd h = true) : NatHd h h.gen.toNat h.epoch.toNat h.since.toNat h.area.toNat h.size.toNat h.next.toNat h.pos.toNat := okHd_nat o k.g.2 k.n.2

theorem fld_lt (S : ByteArray) (p k : Nat) : fld S p k < 256 ^ k := numAt_lt _ k
theorem lst_extract (s : ByteArray) (a b : Nat) : lst (s.extract a b) = ((lst s).drop a).take (b - a) := by
  unfold lst
  rw [ByteArray.data_extract, Array.toList_extract]
  show List.map _ (List.take (b - a) (List.drop a _)) = _
  rw [List.map_take, List.map_drop]
theorem lst_left (S : ByteArray) (p : Nat) : lst (left S p) = (lst S).drop p := by
  unfold left
  rw [lst_extract, List.take_of_length_le]
  rw [List.length_drop, lst_len]
  omega
theorem fld_val {S : ByteArray} {p k : Nat} (h : p + k ≤ S.size) : fld S p k = valL (((lst S).drop p).take k) := by
  unfold fld
  rw [numAt_val _ _ (by rw [left_size]; omega)]
  congr 2
  exact lst_left S p
theorem headP_ok (h : Hd) : okBytes (headP h) := by
  unfold headP
  refine .append (.append (.append (.append (.append (.append (.append ?_ (numL_ok _ _)) (numL_ok _ _)) (numL_ok _ _)) (numL_ok _ _)) (numL_ok _ _)) (numL_ok _ _)) (numL_ok _ _)
  intro c hc
  simp at hc
  omega
theorem headS_ok (h : Hd) : okBytes (headS h) := (headP_ok h).append (numL_ok _ _)
theorem headB_lst (h : Hd) : lst (headB h) = headS h ++ List.replicate 84 0 := by
  unfold headB pad
  rw [lst_append, lst_bs (headS_ok h), bs_size, headS_len]
  simp [lst, zeros]
theorem headB_size (h : Hd) : (headB h).size = 128 := by rw [← lst_len, headB_lst]; simp [headS_len]
theorem take_num (n k : Nat) (l : List Nat) : (numL n k ++ l).take k = numL n k := by
  rw [List.take_append_of_le_length (by rw [numL_len]; omega), List.take_of_length_le (by rw [numL_len]; omega)]
theorem drop_num (n k m : Nat) (l : List Nat) (h : k ≤ m) : (numL n k ++ l).drop m = l.drop (m - k) := by
  rw [List.drop_append, List.drop_of_length_le (by rw [numL_len]; omega), numL_len, List.nil_append]
theorem hdOf_headB {h : Hd} {g e s a z n p : Nat} (k : NatHd h g e s a z n p) : hdOf (headB h) = h := by
  have hl : lst (headB h) = [80, 72, 68, 49] ++ (numL g 8 ++ (numL e 4 ++ (numL s 4 ++ (numL a 4 ++ (numL z 4 ++ (numL n 8 ++ (numL p 4 ++ (numL (sumOf (bs (headP h))) 4 ++ List.replicate 84 0)))))))) := by
    rw [headB_lst]
    unfold headS
    conv => lhs; lhs; lhs; unfold headP
    rw [k.g1, k.e1, k.s1, k.a1, k.z1, k.n1, k.p1]
    simp only [List.append_assoc, Int.toNat_natCast]
  have hs := headB_size h
  have h4 : ∀ (l : List Nat) (m : Nat), 4 ≤ m → ([80, 72, 68, 49] ++ l).drop m = l.drop (m - 4) := fun l m hm => by
    rw [List.drop_append, List.drop_of_length_le (by simpa using hm)]; rfl
  have k1 : fld (headB h) 4 8 = g := by
    rw [fld_val (by omega), hl, h4 _ _ (by omega), List.drop_zero, take_num, valL_numL]
    have := k.g2; omega
  have k2 : fld (headB h) 12 4 = e := by
    rw [fld_val (by omega), hl, h4 _ _ (by omega), drop_num _ _ _ _ (by omega), List.drop_zero, take_num, valL_numL]
    have := k.e2; omega
  have k3 : fld (headB h) 16 4 = s := by
    rw [fld_val (by omega), hl, h4 _ _ (by omega), drop_num _ _ _ _ (by omega), drop_num _ _ _ _ (by omega), List.drop_zero, take_num, valL_numL]
    have := k.s2; omega
  have k4 : fld (headB h) 20 4 = a := by
    rw [fld_val (by omega), hl, h4 _ _ (by omega), drop_num _ _ _ _ (by omega), drop_num _ _ _ _ (by omega), drop_num _ _ _ _ (by omega), List.drop_zero, take_num, valL_numL]
    have := k.a2; omega
  have k5 : fld (headB h) 24 4 = z := by
    rw [fld_val (by omega), hl, h4 _ _ (by omega), drop_num _ _ _ _ (by omega), drop_num _ _ _ _ (by omega), drop_num _ _ _ _ (by omega), drop_num _ _ _ _ (by omega), List.drop_zero, take_num, valL_numL]
    have := k.z2; omega
  have k6 : fld (headB h) 28 8 = n := by
    rw [fld_val (by omega), hl, h4 _ _ (by omega), drop_num _ _ _ _ (by omega), drop_num _ _ _ _ (by omega), drop_num _ _ _ _ (by omega), drop_num _ _ _ _ (by omega), drop_num _ _ _ _ (by omega), List.drop_zero, take_num, valL_numL]
    have := k.n2; omega
  have k7 : fld (headB h) 36 4 = p := by
    rw [fld_val (by omega), hl, h4 _ _ (by omega), drop_num _ _ _ _ (by omega), drop_num _ _ _ _ (by omega), drop_num _ _ _ _ (by omega), drop_num _ _ _ _ (by omega), drop_num _ _ _ _ (by omega), drop_num _ _ _ _ (by omega), List.drop_zero, take_num, valL_numL]
    have := k.p2; omega
  unfold hdOf
  rw [k1, k2, k3, k4, k5, k6, k7, ← k.g1, ← k.e1, ← k.s1, ← k.a1, ← k.z1, ← k.n1, ← k.p1]
theorem getP_headB {h : Hd} (k : okHd h = true) (hg : h.gen ≤ 9223372036854775807) (hn : h.next ≤ 9223372036854775807) : getP (headB h) = some h := by
  have nh := okHd_nat k hg hn
  have e := hdOf_headB nh
  have e1 : ((fld (headB h) 4 8 : Nat) : Int) = h.gen := congrArg Hd.gen e
  have e2 : ((fld (headB h) 28 8 : Nat) : Int) = h.next := congrArg Hd.next e
  unfold getP
  rw [if_pos ⟨headB_size h, by omega, by omega, by rw [e]; exact k, by rw [e]⟩, e]
theorem getP_some {S : ByteArray} {h : Hd} (k : getP S = some h) : S.size = 128 ∧ h = hdOf S ∧ okHd h = true ∧ headB h = S ∧ h.gen ≤ 9223372036854775807 ∧ h.next ≤ 9223372036854775807 ∧ fld S 4 8 ≤ 9223372036854775807 ∧ fld S 28 8 ≤ 9223372036854775807 := by
  unfold getP at k
  split at k
  · rename_i c
    obtain ⟨c1, c2, c3, c4, c5⟩ := c
    obtain rfl := Option.some.inj k
    refine ⟨c1, rfl, c4, c5, ?_, ?_, c2, c3⟩
    · show ((fld S 4 8 : Nat) : Int) ≤ _; omega
    · show ((fld S 28 8 : Nat) : Int) ≤ _; omega
  · cases k
theorem hdOf_nat {S : ByteArray} (h1 : fld S 4 8 ≤ 9223372036854775807) (h2 : fld S 28 8 ≤ 9223372036854775807) : NatHd (hdOf S) (fld S 4 8) (fld S 12 4) (fld S 16 4) (fld S 20 4) (fld S 24 4) (fld S 28 8) (fld S 36 4) :=
  ⟨rfl, rfl, rfl, rfl, rfl, rfl, rfl, h1, fld_lt S 12 4, fld_lt S 16 4, fld_lt S 20 4, fld_lt S 24 4, h2, fld_lt S 36 4⟩
/-- Bytes of which up to four that follow one another, ahead of the sum, are others, are none's. -/
theorem getP_spoilt {h : Hd} (k : okHd h = true) {S : ByteArray} {a : Nat} (ha : a ≤ 36) (hs : S.size = 128)
    (h1 : ∀ i, i < a → byt S i = byt (headB h) i) (h2 : ∀ i, a + 4 ≤ i → byt S i = byt (headB h) i) (hx : ∃ i, i < 4 ∧ byt S (a + i) ≠ byt (headB h) (a + i)) : getP S = none := by
  cases hg : getP S with
  | none => rfl
  | some h' =>
    exfalso
    obtain ⟨_, _, _, hb, _⟩ := getP_some hg
    subst hb
    have bP : ∀ (h : Hd) i, i < 40 → byt (headB h) i = byt (bs (headP h)) i := fun h i hi => by
      rw [← lst_getD, ← lst_getD, headB_lst, lst_bs (headP_ok h)]
      unfold headS
      rw [List.getD_eq_getElem?_getD, List.getD_eq_getElem?_getD, List.append_assoc, List.getElem?_append_left (by rw [headP_len]; omega)]
    have bS : ∀ h : Hd, numL (sumOf (bs (headP h))) 4 = ((lst (headB h)).drop 40).take 4 := fun h => by
      rw [headB_lst]
      unfold headS
      rw [List.append_assoc, List.drop_append, List.drop_of_length_le (by rw [headP_len]; omega), headP_len, List.nil_append, List.drop_zero, take_num]
    have eqS : numL (sumOf (bs (headP h'))) 4 = numL (sumOf (bs (headP h))) 4 := by
      rw [bS, bS]
      apply List.ext_getElem?
      intro i
      by_cases hi : i < 4
      · rw [List.getElem?_take_of_lt hi, List.getElem?_take_of_lt hi, List.getElem?_drop, List.getElem?_drop, lst_get _ (by rw [headB_size]; omega), lst_get _ (by rw [headB_size]; omega), h2 _ (by omega)]
      · rw [List.getElem?_eq_none (by rw [List.length_take]; omega), List.getElem?_eq_none (by rw [List.length_take]; omega)]
    have eqN : sumOf (bs (headP h')) = sumOf (bs (headP h)) := by
      have e := congrArg valL eqS
      rw [valL_numL, valL_numL] at e
      have l1 := sumOf_lt (bs (headP h'))
      have l2 := sumOf_lt (bs (headP h))
      omega
    unfold sumOf at eqN
    have eqC := xor_right_cancel eqN
    rw [bs_size, bs_size, headP_len, headP_len] at eqC
    obtain ⟨i, hi, hne⟩ := hx
    have fin := crcN_burst (s := bs (headP h')) (t := bs (headP h)) (r := 4294967295) (by omega) (a := a) (n := 40) (by omega)
      (fun j hj => by rw [← bP, ← bP]; exact h1 j hj; omega; omega) (fun j hj hj2 => by rw [← bP, ← bP]; exact h2 j hj; omega; omega) eqC i hi
    rw [← bP _ _ (by omega), ← bP _ _ (by omega)] at fin
    exact hne fin

theorem left_all (S : ByteArray) : left S 0 = S := by
  exact ByteArray.extract_zero_size
end Go.Proofs.YtmkpglabiikdeaaGreat

