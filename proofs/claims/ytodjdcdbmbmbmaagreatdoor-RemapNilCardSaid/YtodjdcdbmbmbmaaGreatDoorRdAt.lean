/-
  Both readers at a place of a text: what they answer, in numbers of the text.
-/
import Derived.Test.YtodjdcdbmbmbmaaGreatDoorRfR8
import Derived.Test.YtodjdcdbmbmbmaaGreatDoorParseA
namespace Go.Proofs.YtodjdcdbmbmbmaaGreatDoor
open Go.RowKit PH

def fld (S : ByteArray) (p k : Nat) : Nat := numAt (left S p) k
theorem left_all (S : ByteArray) : left S 0 = S := by
  unfold left
  rw [ByteArray.extract_zero_size]
theorem rdS_at {S : ByteArray} {p k : Nat} (h : p + k ≤ S.size) : rdS (left S p) 0 k = left S (p + k) := by
  unfold rdS
  rw [if_neg (by simp), if_neg (by rw [left_size]; omega), left_left S p k h]
theorem rdE_at {S : ByteArray} {p k : Nat} (h : p + k ≤ S.size) : rdE (left S p) 0 k = 0 := by
  unfold rdE
  rw [if_neg (by simp), if_neg (by rw [left_size]; omega)]
theorem rdN_at {S : ByteArray} {p k : Nat} (h : p + k ≤ S.size) : rdN (left S p) 0 k = fld S p k := by
  unfold rdN fld
  rw [if_neg (by simp), if_neg (by rw [left_size]; omega)]
theorem rfAt_at {S : ByteArray} {p k : Nat} (h : p + k ≤ S.size) : rfAt S p 0 k = p + k := by
  unfold rfAt
  rw [if_neg (by simp), if_neg (by rw [left_size]; omega)]
theorem rU32_at {E W : World} {L : List HP} {b p : Nat} {S : ByteArray} (x : Sat E W (isRd b (left S p) 0 :: L)) (h : p + 4 ≤ S.size) (hs : S.size ≤ 9223372036854775807) :
    Calls Tryz.prog 35 #[.pointer (some ⟨b, 0, none⟩)] W fun e w' => e = .returned (.int .i64 (fld S p 4)) ∧ Sat E w' (isRd b (left S (p + 4)) 0 :: L) := by
  have k := rU32_ok x (by rw [left_size]; omega)
  rw [rdS_at h, rdE_at h, rdN_at h] at k
  exact k
theorem rU64_at {E W : World} {L : List HP} {b p : Nat} {S : ByteArray} (x : Sat E W (isRd b (left S p) 0 :: L)) (h : p + 8 ≤ S.size) (hs : S.size ≤ 9223372036854775807) (hn : fld S p 8 ≤ 9223372036854775807) :
    Calls Tryz.prog 36 #[.pointer (some ⟨b, 0, none⟩)] W fun e w' => e = .returned (.int .i64 (fld S p 8)) ∧ Sat E w' (isRd b (left S (p + 8)) 0 :: L) := by
  have k := rU64_ok x (by rw [left_size]; omega)
  unfold r8N r8S r8E at k
  rw [rdS_at h, rdE_at h, rdN_at h, if_neg (by omega), if_neg (by omega), if_neg (by omega)] at k
  exact k
theorem rU64_top {E W : World} {L : List HP} {b p : Nat} {S : ByteArray} (x : Sat E W (isRd b (left S p) 0 :: L)) (h : p + 8 ≤ S.size) (hs : S.size ≤ 9223372036854775807) (hn : ¬ fld S p 8 ≤ 9223372036854775807) :
    Calls Tryz.prog 36 #[.pointer (some ⟨b, 0, none⟩)] W fun e w' => e = .returned (.int .i64 0) ∧ Sat E w' (isRd b ByteArray.empty 3 :: L) := by
  have k := rU64_ok x (by rw [left_size]; omega)
  unfold r8N r8S r8E at k
  rw [rdS_at h, rdE_at h, rdN_at h, if_pos (by omega), if_pos (by omega), if_pos (by omega)] at k
  exact k
theorem rU32_bad {E W : World} {L : List HP} {b : Nat} {S : ByteArray} {err : Int} (he : err ≠ 0) (x : Sat E W (isRd b S err :: L)) (hs : S.size ≤ 9223372036854775807) :
    Calls Tryz.prog 35 #[.pointer (some ⟨b, 0, none⟩)] W fun e w' => e = .returned (.int .i64 0) ∧ Sat E w' (isRd b S err :: L) := by
  have k := rU32_ok x hs
  unfold rdS rdE rdN at k
  rw [if_pos he, if_pos he, if_pos he] at k
  exact k
theorem rU64_bad {E W : World} {L : List HP} {b : Nat} {S : ByteArray} {err : Int} (he : err ≠ 0) (x : Sat E W (isRd b S err :: L)) (hs : S.size ≤ 9223372036854775807) :
    Calls Tryz.prog 36 #[.pointer (some ⟨b, 0, none⟩)] W fun e w' => e = .returned (.int .i64 0) ∧ Sat E w' (isRd b S err :: L) := by
  have k := rU64_ok x hs
  unfold r8N r8S r8E rdS rdE rdN at k
  rw [if_pos he, if_pos he, if_pos he, if_neg (by omega), if_neg (by omega), if_neg (by omega)] at k
  exact k
theorem refU4_at {E W : World} {L : List HP} {b p : Nat} {S : ByteArray} (x : Sat E W (isRf b S p 0 :: L)) (h : p + 4 ≤ S.size) (hs : S.size ≤ 9223372036854775000) :
    Calls Tryz.prog 13 #[.pointer (some ⟨b, 0, none⟩), .int .i64 4] W fun e w' => e = .returned (.int .i64 (fld S p 4)) ∧ Sat E w' (isRf b S (p + 4) 0 :: L) := by
  have k := refU4_ok x (by omega) hs
  rw [rfAt_at h, rdE_at h, rdN_at h] at k
  exact k
theorem refU8_at {E W : World} {L : List HP} {b p : Nat} {S : ByteArray} (x : Sat E W (isRf b S p 0 :: L)) (h : p + 8 ≤ S.size) (hs : S.size ≤ 9223372036854775000) (hn : fld S p 8 ≤ 9223372036854775807) :
    Calls Tryz.prog 13 #[.pointer (some ⟨b, 0, none⟩), .int .i64 8] W fun e w' => e = .returned (.int .i64 (fld S p 8)) ∧ Sat E w' (isRf b S (p + 8) 0 :: L) := by
  have k := refU8_ok x (by omega) hs
  unfold r8N r8E at k
  rw [rfAt_at h, rdE_at h, rdN_at h, if_neg (by omega), if_neg (by omega), if_neg (by omega)] at k
  exact k
theorem refU8_top {E W : World} {L : List HP} {b p : Nat} {S : ByteArray} (x : Sat E W (isRf b S p 0 :: L)) (h : p + 8 ≤ S.size) (hs : S.size ≤ 9223372036854775000) (hn : ¬ fld S p 8 ≤ 9223372036854775807) :
    Calls Tryz.prog 13 #[.pointer (some ⟨b, 0, none⟩), .int .i64 8] W fun e w' => e = .returned (.int .i64 0) ∧ Sat E w' (isRf b S p 3 :: L) := by
  have k := refU8_ok x (by omega) hs
  unfold r8N r8E at k
  rw [rfAt_at h, rdE_at h, rdN_at h, if_pos (by omega), if_pos (by omega), if_pos (by omega)] at k
  exact k
theorem refU4_bad {E W : World} {L : List HP} {b p : Nat} {S : ByteArray} {err : Int} (he : err ≠ 0) (x : Sat E W (isRf b S p err :: L)) (h : p ≤ S.size) (hs : S.size ≤ 9223372036854775000) :
    Calls Tryz.prog 13 #[.pointer (some ⟨b, 0, none⟩), .int .i64 4] W fun e w' => e = .returned (.int .i64 0) ∧ Sat E w' (isRf b S p err :: L) := by
  have k := refU4_ok x h hs
  unfold rfAt rdE rdN at k
  rw [if_pos he, if_pos he, if_pos he] at k
  exact k
theorem refU8_bad {E W : World} {L : List HP} {b p : Nat} {S : ByteArray} {err : Int} (he : err ≠ 0) (x : Sat E W (isRf b S p err :: L)) (h : p ≤ S.size) (hs : S.size ≤ 9223372036854775000) :
    Calls Tryz.prog 13 #[.pointer (some ⟨b, 0, none⟩), .int .i64 8] W fun e w' => e = .returned (.int .i64 0) ∧ Sat E w' (isRf b S p err :: L) := by
  have k := refU8_ok x h hs
  unfold r8N r8E rfAt rdE rdN at k
  rw [if_pos he, if_pos he, if_pos he, if_neg (by omega), if_neg (by omega), if_neg (by omega)] at k
  exact k
end Go.Proofs.YtodjdcdbmbmbmaaGreatDoor
