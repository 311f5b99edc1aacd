/-
  Numbers that stand in bytes at a place: plain laws, no program in sight.
-/
import Derived.Test.YtmkpglabiikdeaaGreatDoorRfR8
namespace Go.Proofs.YtmkpglabiikdeaaGreatDoor
open Go.RowKit PH

/-- The number of k bytes at a place. -/
def fld (S : ByteArray) (p k : Nat) : Nat := numAt (left S p) k
theorem fld_lt (S : ByteArray) (p k : Nat) : fld S p k < 256 ^ k := numAt_lt _ k
theorem lst_extract (s : ByteArray) (a b : Nat) : lst (s.extract a b) = ((lst s).drop a).take (b - a) := by
  unfold lst
  rw [ByteArray.data_extract, Array.toList_extract]
  show List.map _ (List.take (b - a) (List.drop a _)) = _
  rw [List.map_take, List.map_drop]
theorem lst_left (S : ByteArray) (p : Nat) : lst (left S p) = (lst S).drop p := by
  unfold left
  rw [lst_extract, List.take_of_length_le]
  rw [List.length_drop, lst_len]
  omega
theorem fld_val {S : ByteArray} {p k : Nat} (h : p + k ≤ S.size) : fld S p k = valL (((lst S).drop p).take k) := by
  unfold fld
  rw [numAt_val _ _ (by rw [left_size]; omega)]
  congr 2
  exact lst_left S p
theorem take_num (n k : Nat) (l : List Nat) : (numL n k ++ l).take k = numL n k := by
  rw [List.take_append_of_le_length (by rw [numL_len]; omega), List.take_of_length_le (by rw [numL_len]; omega)]
theorem drop_num (n k m : Nat) (l : List Nat) (h : k ≤ m) : (numL n k ++ l).drop m = l.drop (m - k) := by
  rw [List.drop_append, List.drop_of_length_le (by rw [numL_len]; omega), numL_len, List.nil_append]
theorem left_all (S : ByteArray) : left S 0 = S := by
  exact ByteArray.extract_zero_size
end Go.Proofs.YtmkpglabiikdeaaGreatDoor
/-
  Both readers at a place of a text: what they answer, in numbers of the text.
-/
namespace Go.Proofs.YtmkpglabiikdeaaGreatDoor
open Go.RowKit PH

theorem rdS_at {S : ByteArray} {p k : Nat} (h : p + k ≤ S.size) : rdS (left S p) 0 k = left S (p + k) := by
  unfold rdS
  rw [if_neg (by simp), if_neg (by rw [left_size]; omega), left_left S p k h]
theorem rdE_at {S : ByteArray} {p k : Nat} (h : p + k ≤ S.size) : rdE (left S p) 0 k = 0 := by
  unfold rdE
  rw [if_neg (by simp), if_neg (by rw [left_size]; omega)]
theorem rdN_at {S : ByteArray} {p k : Nat} (h : p + k ≤ S.size) : rdN (left S p) 0 k = fld S p k := by
  unfold rdN fld
  rw [if_neg (by simp), if_neg (by rw [left_size]; omega)]
theorem rfAt_at {S : ByteArray} {p k : Nat} (h : p + k ≤ S.size) : rfAt S p 0 k = p + k := by
  unfold rfAt
  rw [if_neg (by simp), if_neg (by rw [left_size]; omega)]
theorem rU32_at {E W : World} {L : List HP} {b p : Nat} {S : ByteArray} (x : Sat E W (isRd b (left S p) 0 :: L)) (h : p + 4 ≤ S.size) (hs : S.size ≤ 9223372036854775807) :
    Calls Tryz.prog 48 #[.pointer (some ⟨b, 0, none⟩)] W fun e w' => e = .returned (.int .i64 (fld S p 4)) ∧ Sat E w' (isRd b (left S (p + 4)) 0 :: L) := by
  have k := rU32_ok x (by rw [left_size]; omega)
  rw [rdS_at h, rdE_at h, rdN_at h] at k
  exact k
theorem rU64_at {E W : World} {L : List HP} {b p : Nat} {S : ByteArray} (x : Sat E W (isRd b (left S p) 0 :: L)) (h : p + 8 ≤ S.size) (hs : S.size ≤ 9223372036854775807) (hn : fld S p 8 ≤ 9223372036854775807) :
    Calls Tryz.prog 49 #[.pointer (some ⟨b, 0, none⟩)] W fun e w' => e = .returned (.int .i64 (fld S p 8)) ∧ Sat E w' (isRd b (left S (p + 8)) 0 :: L) := by
  have k := rU64_ok x (by rw [left_size]; omega)
  unfold r8N r8S r8E at k
  rw [rdS_at h, rdE_at h, rdN_at h, if_neg (by omega), if_neg (by omega), if_neg (by omega)] at k
  exact k
theorem rU64_top {E W : World} {L : List HP} {b p : Nat} {S : ByteArray} (x : Sat E W (isRd b (left S p) 0 :: L)) (h : p + 8 ≤ S.size) (hs : S.size ≤ 9223372036854775807) (hn : ¬ fld S p 8 ≤ 9223372036854775807) :
    Calls Tryz.prog 49 #[.pointer (some ⟨b, 0, none⟩)] W fun e w' => e = .returned (.int .i64 0) ∧ Sat E w' (isRd b ByteArray.empty 3 :: L) := by
  have k := rU64_ok x (by rw [left_size]; omega)
  unfold r8N r8S r8E at k
  rw [rdS_at h, rdE_at h, rdN_at h, if_pos (by omega), if_pos (by omega), if_pos (by omega)] at k
  exact k
theorem rU32_bad {E W : World} {L : List HP} {b : Nat} {S : ByteArray} {err : Int} (he : err ≠ 0) (x : Sat E W (isRd b S err :: L)) (hs : S.size ≤ 9223372036854775807) :
    Calls Tryz.prog 48 #[.pointer (some ⟨b, 0, none⟩)] W fun e w' => e = .returned (.int .i64 0) ∧ Sat E w' (isRd b S err :: L) := by
  have k := rU32_ok x hs
  unfold rdS rdE rdN at k
  rw [if_pos he, if_pos he, if_pos he] at k
  exact k
theorem rU64_bad {E W : World} {L : List HP} {b : Nat} {S : ByteArray} {err : Int} (he : err ≠ 0) (x : Sat E W (isRd b S err :: L)) (hs : S.size ≤ 9223372036854775807) :
    Calls Tryz.prog 49 #[.pointer (some ⟨b, 0, none⟩)] W fun e w' => e = .returned (.int .i64 0) ∧ Sat E w' (isRd b S err :: L) := by
  have k := rU64_ok x hs
  unfold r8N r8S r8E rdS rdE rdN at k
  rw [if_pos he, if_pos he, if_pos he, if_neg (by omega), if_neg (by omega), if_neg (by omega)] at k
  exact k
theorem refU4_at {E W : World} {L : List HP} {b p : Nat} {S : ByteArray} (x : Sat E W (isRf b S p 0 :: L)) (h : p + 4 ≤ S.size) (hs : S.size ≤ 9223372036854775000) :
    Calls Tryz.prog 54 #[.pointer (some ⟨b, 0, none⟩), .int .i64 4] W fun e w' => e = .returned (.int .i64 (fld S p 4)) ∧ Sat E w' (isRf b S (p + 4) 0 :: L) := by
  have k := refU4_ok x (by omega) hs
  rw [rfAt_at h, rdE_at h, rdN_at h] at k
  exact k
theorem refU8_at {E W : World} {L : List HP} {b p : Nat} {S : ByteArray} (x : Sat E W (isRf b S p 0 :: L)) (h : p + 8 ≤ S.size) (hs : S.size ≤ 9223372036854775000) (hn : fld S p 8 ≤ 9223372036854775807) :
    Calls Tryz.prog 54 #[.pointer (some ⟨b, 0, none⟩), .int .i64 8] W fun e w' => e = .returned (.int .i64 (fld S p 8)) ∧ Sat E w' (isRf b S (p + 8) 0 :: L) := by
  have k := refU8_ok x (by omega) hs
  unfold r8N r8E at k
  rw [rfAt_at h, rdE_at h, rdN_at h, if_neg (by omega), if_neg (by omega), if_neg (by omega)] at k
  exact k
theorem refU8_top {E W : World} {L : List HP} {b p : Nat} {S : ByteArray} (x : Sat E W (isRf b S p 0 :: L)) (h : p + 8 ≤ S.size) (hs : S.size ≤ 9223372036854775000) (hn : ¬ fld S p 8 ≤ 9223372036854775807) :
    Calls Tryz.prog 54 #[.pointer (some ⟨b, 0, none⟩), .int .i64 8] W fun e w' => e = .returned (.int .i64 0) ∧ Sat E w' (isRf b S p 3 :: L) := by
  have k := refU8_ok x (by omega) hs
  unfold r8N r8E at k
  rw [rfAt_at h, rdE_at h, rdN_at h, if_pos (by omega), if_pos (by omega), if_pos (by omega)] at k
  exact k
theorem refU4_bad {E W : World} {L : List HP} {b p : Nat} {S : ByteArray} {err : Int} (he : err ≠ 0) (x : Sat E W (isRf b S p err :: L)) (h : p ≤ S.size) (hs : S.size ≤ 9223372036854775000) :
    Calls Tryz.prog 54 #[.pointer (some ⟨b, 0, none⟩), .int .i64 4] W fun e w' => e = .returned (.int .i64 0) ∧ Sat E w' (isRf b S p err :: L) := by
  have k := refU4_ok x h hs
  unfold rfAt rdE rdN at k
  rw [if_pos he, if_pos he, if_pos he] at k
  exact k
theorem refU8_bad {E W : World} {L : List HP} {b p : Nat} {S : ByteArray} {err : Int} (he : err ≠ 0) (x : Sat E W (isRf b S p err :: L)) (h : p ≤ S.size) (hs : S.size ≤ 9223372036854775000) :
    Calls Tryz.prog 54 #[.pointer (some ⟨b, 0, none⟩), .int .i64 8] W fun e w' => e = .returned (.int .i64 0) ∧ Sat E w' (isRf b S p err :: L) := by
  have k := refU8_ok x h hs
  unfold r8N r8E rfAt rdE rdN at k
  rw [if_pos he, if_pos he, if_pos he, if_neg (by omega), if_neg (by omega), if_neg (by omega)] at k
  exact k
end Go.Proofs.YtmkpglabiikdeaaGreatDoor
