/-
  Pieces and their bytes: plain laws, no program in sight.
-/
import Derived.Test.YtmkpglabiikdeaaGreatDoorRdAt
import Derived.Test.YtmkpglabiikdeaaGreatDoorPieceBase
namespace Go.Proofs.YtmkpglabiikdeaaGreatDoor
open Go.RowKit PH

/-- A piece's numbers in bytes. -/
def pcH (p : Pc) : List Nat := numL p.epoch.toNat 4 ++ numL p.seq.toNat 8 ++ numL p.part.toNat 4 ++ numL p.parts.toNat 4 ++ numL p.data.size 4
/-- With the data, filled up. -/
def pcF (p : Pc) : List Nat := pcH p ++ lst p.data ++ List.replicate (100 - p.data.size) 0
/-- With the sum. -/
def pcS (p : Pc) : List Nat := pcF p ++ numL (sumOf (bs (pcF p))) 4
/-- A piece's sector. -/
def pcB (p : Pc) : ByteArray := bs (pcS p)
theorem pcH_len (p : Pc) : (pcH p).length = 24 := by simp [pcH, numL_len]
theorem pcF_len {p : Pc} (h : p.data.size ≤ 100) : (pcF p).length = 124 := by simp [pcF, pcH_len, lst_len]; omega
theorem pcS_len {p : Pc} (h : p.data.size ≤ 100) : (pcS p).length = 128 := by simp [pcS, pcF_len h, numL_len]
theorem pcB_size {p : Pc} (h : p.data.size ≤ 100) : (pcB p).size = 128 := by unfold pcB; rw [bs_size, pcS_len h]
theorem pcH_ok (p : Pc) : okBytes (pcH p) := by
  unfold pcH
  exact .append (.append (.append (.append (numL_ok _ _) (numL_ok _ _)) (numL_ok _ _)) (numL_ok _ _)) (numL_ok _ _)
theorem pcF_ok (p : Pc) : okBytes (pcF p) := by
  unfold pcF
  refine .append (.append (pcH_ok p) (lst_ok _)) ?_
  intro c hc
  rw [List.mem_replicate] at hc
  omega
theorem pcS_ok (p : Pc) : okBytes (pcS p) := (pcF_ok p).append (numL_ok _ _)
theorem pcB_lst (p : Pc) : lst (pcB p) = pcS p := lst_bs (pcS_ok p)
/-- A piece whose numbers may be written. -/
structure NatPc (p : Pc) (e q t n : Nat) : Prop where
  e1 : p.epoch = e
  q1 : p.seq = q
  t1 : p.part = t
  n1 : p.parts = n
  e2 : e < 4294967296
  q2 : q ≤ 9223372036854775807
  t2 : t < 4294967296
  n2 : n < 4294967296
  d2 : p.data.size ≤ 100
theorem okPc_data {p : Pc} (k : okPc p = true) : p.data.size ≤ 100 := by
  unfold okPc full at k
  simp only [Bool.and_eq_true] at k
  have k := k.2
  split at k
  · have := eq_of_beq k; omega
  · split at k
    · have := of_decide_eq_true k; omega
    · have := (Bool.and_eq_true_iff.1 k).2
      have := of_decide_eq_true this
      omega
theorem okPc_bounds {p : Pc} (k : okPc p = true) : 1 ≤ p.epoch ∧ p.epoch ≤ 4294967295 ∧ 1 ≤ p.seq ∧ 1 ≤ p.parts ∧ p.parts ≤ 64 ∧ 0 ≤ p.part ∧ p.part < p.parts := by
  unfold okPc nums at k
  simp only [Bool.and_eq_true, decide_eq_true_eq] at k
  obtain ⟨⟨⟨⟨⟨⟨⟨k1, k2⟩, k3⟩, k4⟩, k5⟩, k6⟩, k7⟩, _⟩ := k
  exact ⟨k1, k2, k3, k4, k5, k6, k7⟩
theorem okPc_nat {p : Pc} (k : okPc p = true) (hq : p.seq ≤ 9223372036854775807) : NatPc p p.epoch.toNat p.seq.toNat p.part.toNat p.parts.toNat := by
  obtain ⟨k1, k2, k3, k4, k5, k6, k7⟩ := okPc_bounds k
  exact ⟨by omega, by omega, by omega, by omega, by omega, by omega, by omega, by omega, okPc_data k⟩

/-- The piece that bytes say. -/
def pcOfB (S : ByteArray) : Pc := ⟨fld S 0 4, fld S 4 8, fld S 12 4, fld S 16 4, S.extract 24 (24 + fld S 20 4)⟩
/-- The piece of bytes, or none. -/
def getPc (S : ByteArray) : Option Pc := if S.size = 128 ∧ fld S 4 8 ≤ 9223372036854775807 ∧ fld S 20 4 ≤ 100 ∧ okPc (pcOfB S) = true ∧ pcB (pcOfB S) = S then some (pcOfB S) else none
theorem pcS_split (p : Pc) : pcS p = numL p.epoch.toNat 4 ++ (numL p.seq.toNat 8 ++ (numL p.part.toNat 4 ++ (numL p.parts.toNat 4 ++ (numL p.data.size 4 ++ (lst p.data ++ (List.replicate (100 - p.data.size) 0 ++ numL (sumOf (bs (pcF p))) 4)))))) := by
  unfold pcS
  conv => lhs; lhs; unfold pcF pcH
  simp only [List.append_assoc]
theorem pcOfB_pcB {p : Pc} {e q t n : Nat} (k : NatPc p e q t n) : pcOfB (pcB p) = p ∧ fld (pcB p) 4 8 = q ∧ fld (pcB p) 20 4 = p.data.size := by
  have hl := (pcB_lst p).trans (pcS_split p)
  rw [k.e1, k.q1, k.t1, k.n1] at hl
  simp only [Int.toNat_natCast] at hl
  have hs := pcB_size k.d2
  have d2 := k.d2
  have k1 : fld (pcB p) 0 4 = e := by
    rw [fld_val (by omega), hl, List.drop_zero, take_num, valL_numL]
    have := k.e2; omega
  have k2 : fld (pcB p) 4 8 = q := by
    rw [fld_val (by omega), hl, drop_num _ _ _ _ (by omega), List.drop_zero, take_num, valL_numL]
    have := k.q2; omega
  have k3 : fld (pcB p) 12 4 = t := by
    rw [fld_val (by omega), hl, drop_num _ _ _ _ (by omega), drop_num _ _ _ _ (by omega), List.drop_zero, take_num, valL_numL]
    have := k.t2; omega
  have k4 : fld (pcB p) 16 4 = n := by
    rw [fld_val (by omega), hl, drop_num _ _ _ _ (by omega), drop_num _ _ _ _ (by omega), drop_num _ _ _ _ (by omega), List.drop_zero, take_num, valL_numL]
    have := k.n2; omega
  have k5 : fld (pcB p) 20 4 = p.data.size := by
    rw [fld_val (by omega), hl, drop_num _ _ _ _ (by omega), drop_num _ _ _ _ (by omega), drop_num _ _ _ _ (by omega), drop_num _ _ _ _ (by omega), List.drop_zero, take_num, valL_numL]
    omega
  have k6 : (pcB p).extract 24 (24 + p.data.size) = p.data := by
    apply lst_inj
    rw [lst_extract, hl, drop_num _ _ _ _ (by omega), drop_num _ _ _ _ (by omega), drop_num _ _ _ _ (by omega), drop_num _ _ _ _ (by omega), drop_num _ _ _ _ (by omega), List.drop_zero, Nat.add_sub_cancel_left]
    rw [List.take_append_of_le_length (by rw [lst_len]; omega), List.take_of_length_le (by rw [lst_len]; omega)]
  refine ⟨?_, k2, k5⟩
  unfold pcOfB
  rw [k1, k2, k3, k4, k5, k6, ← k.e1, ← k.q1, ← k.t1, ← k.n1]
theorem getPc_pcB {p : Pc} (k : okPc p = true) (hq : p.seq ≤ 9223372036854775807) : getPc (pcB p) = some p := by
  have nh := okPc_nat k hq
  obtain ⟨e, e1, e2⟩ := pcOfB_pcB nh
  have := nh.q2
  have := nh.d2
  unfold getPc
  rw [if_pos ⟨pcB_size nh.d2, by omega, by omega, by rw [e]; exact k, by rw [e]⟩, e]
theorem getPc_some {S : ByteArray} {p : Pc} (k : getPc S = some p) : S.size = 128 ∧ p = pcOfB S ∧ okPc p = true ∧ pcB p = S ∧ p.seq ≤ 9223372036854775807 ∧ fld S 4 8 ≤ 9223372036854775807 ∧ fld S 20 4 ≤ 100 := by
  unfold getPc at k
  split at k
  · rename_i c
    obtain ⟨c1, c2, c3, c4, c5⟩ := c
    obtain rfl := Option.some.inj k
    refine ⟨c1, rfl, c4, c5, ?_, c2, c3⟩
    show ((fld S 4 8 : Nat) : Int) ≤ _; omega
  · cases k
theorem getPc_none_size {S : ByteArray} (h : S.size ≠ 128) : getPc S = none := by
  unfold getPc
  rw [if_neg fun c => h c.1]
theorem pcOfB_nat {S : ByteArray} (h1 : fld S 4 8 ≤ 9223372036854775807) (h2 : fld S 20 4 ≤ 100) : NatPc (pcOfB S) (fld S 0 4) (fld S 4 8) (fld S 12 4) (fld S 16 4) :=
  ⟨rfl, rfl, rfl, rfl, fld_lt S 0 4, h1, fld_lt S 12 4, fld_lt S 16 4, by
    show (S.extract 24 (24 + fld S 20 4)).size ≤ 100
    rw [ByteArray.size_extract]; omega⟩
theorem pcB_inj {p p' : Pc} (k : okPc p = true) (k' : okPc p' = true) (hq : p.seq ≤ 9223372036854775807) (hq' : p'.seq ≤ 9223372036854775807) (h : pcB p = pcB p') : p = p' := by
  have e := getPc_pcB k hq
  rw [h, getPc_pcB k' hq'] at e
  exact (Option.some.inj e).symm
end Go.Proofs.YtmkpglabiikdeaaGreatDoor
