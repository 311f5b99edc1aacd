/-
  Numbers that stand in bytes at a place: plain laws, no program in sight.
-/
import Derived.Test.YtmkpglabiikdeaaGreatDoorRfR8
namespace Go.Proofs.YtmkpglabiikdeaaGreatDoor
open Go.RowKit PH

/-- The number of k bytes at a place. -/
def fld (S : ByteArray) (p k : Nat) : Nat := numAt (left S p) k
theorem fld_lt (S : ByteArray) (p k : Nat) : fld S p k < 256 ^ k := numAt_lt _ k
theorem lst_extract (s : ByteArray) (a b : Nat) : lst (s.extract a b) = ((lst s).drop a).take (b - a) := by
  unfold lst
  rw [ByteArray.data_extract, Array.toList_extract]
  show List.map _ (List.take (b - a) (List.drop a _)) = _
  rw [List.map_take, List.map_drop]
theorem lst_left (S : ByteArray) (p : Nat) : lst (left S p) = (lst S).drop p := by
  unfold left
  rw [lst_extract, List.take_of_length_le]
  rw [List.length_drop, lst_len]
  omega
theorem fld_val {S : ByteArray} {p k : Nat} (h : p + k ≤ S.size) : fld S p k = valL (((lst S).drop p).take k) := by
  unfold fld
  rw [numAt_val _ _ (by rw [left_size]; omega)]
  congr 2
  exact lst_left S p
theorem take_num (n k : Nat) (l : List Nat) : (numL n k ++ l).take k = numL n k := by
  rw [List.take_append_of_le_length (by rw [numL_len]; omega), List.take_of_length_le (by rw [numL_len]; omega)]
theorem drop_num (n k m : Nat) (l : List Nat) (h : k ≤ m) : (numL n k ++ l).drop m = l.drop (m - k) := by
  rw [List.drop_append, List.drop_of_length_le (by rw [numL_len]; omega), numL_len, List.nil_append]
theorem left_all (S : ByteArray) : left S 0 = S := by
  exact ByteArray.extract_zero_size
end Go.Proofs.YtmkpglabiikdeaaGreatDoor
