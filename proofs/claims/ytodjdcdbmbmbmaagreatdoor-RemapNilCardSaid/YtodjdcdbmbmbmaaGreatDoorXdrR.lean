/-
  posthouse/xdr: the reader's numbers, walked.
-/
import Derived.Test.YtodjdcdbmbmbmaaGreatDoorXdrN
namespace Go.Proofs.YtodjdcdbmbmbmaaGreatDoor
open Go.RowKit PH

/-- A reader behind a number of n bytes: its text, its error, the number. -/
def rdS (s : ByteArray) (err : Int) (n : Nat) : ByteArray := if err ≠ 0 then s else if s.size < n then ByteArray.empty else s.extract n s.size
def rdE (s : ByteArray) (err : Int) (n : Nat) : Int := if err ≠ 0 then err else if s.size < n then 10 else 0
def rdN (s : ByteArray) (err : Int) (n : Nat) : Nat := if err ≠ 0 then 0 else if s.size < n then 0 else numAt s n

set_option maxRecDepth 100000 in
set_option maxHeartbeats 800000 in
theorem rnumber_ok {E W : World} {L : List HP} {b : Nat} {s : ByteArray} {err : Int} (x : Sat E W (isRd b s err :: L)) (n : Nat) (hn : n ≤ 8) (hs : s.size ≤ 9223372036854775807) :
    Calls Tryz.prog 70 #[.pointer (some ⟨b, 0, none⟩), .int .i64 n] W fun e w' => e = .returned (.int .u64 (rdN s err n)) ∧ Sat E w' (isRd b (rdS s err n) (rdE s err n) :: L) := by
  have hx2 := (x.alloc (.cells #[.int .u64 0] 173))
  clear x
  obtain ⟨q, hq⟩ : ∃ q, W.heap.size = q := ⟨_, rfl⟩
  rw [hq] at hx2
  by_cases he : err = 0
  · subst he
    by_cases hsz : s.size < n
    · have HX := Lib.hid hx2
      have q0 := cell_blk hx2.at 0
      clear hx2
      have e1 : rdN s 0 n = 0 := by unfold rdN; rw [if_neg (by simp), if_pos hsz]
      have e2 : rdS s 0 n = ByteArray.empty := by unfold rdS; rw [if_neg (by simp), if_pos hsz]
      have e3 : rdE s 0 n = 10 := by unfold rdE; rw [if_neg (by simp), if_pos hsz]
      rw [e1, e2, e3]
      clear e1 e2 e3
      go_enter Tryz.func70, Tryz.ntmps70
      go_wp2_with (go_at_call 145; refine (take_short HX.out.p1 n hsz hn _).mono ?_; rintro e w3 ⟨rfl, hx3⟩; have q3 := cell_blk hx3.p1.at 0; have HX3 := Lib.hid hx3; clear hx3)
      go_ret
      exact ⟨rfl, HX3.out.p1.tail⟩
    · have HX := Lib.hid hx2
      have q0 := cell_blk hx2.at 0
      clear hx2
      have e1 : rdN s 0 n = numAt s n := by unfold rdN; rw [if_neg (by simp), if_neg hsz]
      have e2 : rdS s 0 n = s.extract n s.size := by unfold rdS; rw [if_neg (by simp), if_neg hsz]
      have e3 : rdE s 0 n = 0 := by unfold rdE; rw [if_neg (by simp), if_neg hsz]
      rw [e1, e2, e3]
      clear e1 e2 e3
      go_enter Tryz.func70, Tryz.ntmps70
      go_wp2_with (go_at_call 145; refine (take_yes HX.out.p1 n (by omega) hn hs).mono ?_; rintro e w3 ⟨rfl, hx3⟩; have q3 := cell_blk hx3.p1.at 0; have HX3 := Lib.hid hx3; clear hx3)
      go_ret
      exact ⟨rfl, HX3.out.p1.tail⟩
  · have HX := Lib.hid hx2
    have q0 := cell_blk hx2.at 0
    clear hx2
    have e1 : rdN s err n = 0 := by unfold rdN; rw [if_pos he]
    have e2 : rdS s err n = s := by unfold rdS; rw [if_pos he]
    have e3 : rdE s err n = err := by unfold rdE; rw [if_pos he]
    rw [e1, e2, e3]
    clear e1 e2 e3
    go_enter Tryz.func70, Tryz.ntmps70
    go_wp2_with (go_at_call 145; refine (take_no he HX.out.p1 n _).mono ?_; rintro e w3 ⟨rfl, rfl⟩)
    go_ret
    exact ⟨rfl, HX.out.tail⟩

theorem rdN_lt (s : ByteArray) (err : Int) (n : Nat) : rdN s err n < 256 ^ n := by
  have hp : 0 < 256 ^ n := Nat.pow_pos (by omega)
  unfold rdN
  split
  · exact hp
  · split
    · exact hp
    · exact numAt_lt s n
theorem rU32_ok {E W : World} {L : List HP} {b : Nat} {s : ByteArray} {err : Int} (x : Sat E W (isRd b s err :: L)) (hs : s.size ≤ 9223372036854775807) :
    Calls Tryz.prog 35 #[.pointer (some ⟨b, 0, none⟩)] W fun e w' => e = .returned (.int .i64 (rdN s err 4)) ∧ Sat E w' (isRd b (rdS s err 4) (rdE s err 4) :: L) := by
  have HX := Lib.hid x
  clear x
  have hl : rdN s err 4 < 4294967296 := rdN_lt s err 4
  obtain ⟨N, hN⟩ : ∃ N, rdN s err 4 = N := ⟨_, rfl⟩
  rw [hN] at hl ⊢
  have HN := Lib.hid hN
  clear hN
  go_enter Tryz.func35, Tryz.ntmps35
  go_wp2_with (go_at_call 70; refine (rnumber_ok HX.out 4 (by omega) hs).mono ?_; rintro e w3 ⟨rfl, hx3⟩; rw [HN.out]; have HX3 := Lib.hid hx3; clear hx3)
  go_ret
  exact ⟨rfl, HX3.out⟩

/-- The same, of eight bytes: at most so great. -/
def r8N (s : ByteArray) (err : Int) : Nat := if 9223372036854775808 ≤ rdN s err 8 then 0 else rdN s err 8
def r8S (s : ByteArray) (err : Int) : ByteArray := if 9223372036854775808 ≤ rdN s err 8 then ByteArray.empty else rdS s err 8
def r8E (s : ByteArray) (err : Int) : Int := if 9223372036854775808 ≤ rdN s err 8 then 3 else rdE s err 8
theorem rU64_ok {E W : World} {L : List HP} {b : Nat} {s : ByteArray} {err : Int} (x : Sat E W (isRd b s err :: L)) (hs : s.size ≤ 9223372036854775807) :
    Calls Tryz.prog 36 #[.pointer (some ⟨b, 0, none⟩)] W fun e w' => e = .returned (.int .i64 (r8N s err)) ∧ Sat E w' (isRd b (r8S s err) (r8E s err) :: L) := by
  have HX := Lib.hid x
  clear x
  have hl : rdN s err 8 < 18446744073709551616 := rdN_lt s err 8
  unfold r8N r8S r8E
  obtain ⟨N, hN⟩ : ∃ N, rdN s err 8 = N := ⟨_, rfl⟩
  rw [hN] at hl ⊢
  have HN := Lib.hid hN
  clear hN
  by_cases h : 9223372036854775808 ≤ N
  · rw [if_pos h, if_pos h, if_pos h]
    have hd : (N : Int) / 9223372036854775808 = 1 := by omega
    go_enter Tryz.func36, Tryz.ntmps36
    go_wp2_with (first
      | (go_at_call 70; refine (rnumber_ok HX.out 8 (by omega) hs).mono ?_; rintro e w3 ⟨rfl, hx3⟩; rw [HN.out]; have HX3 := Lib.hid hx3; clear hx3)
      | (go_at_call 71; refine (rFail_ok HX3.out 3).mono ?_; rintro e w2 ⟨rfl, hx2⟩))
    go_ret
    exact ⟨rfl, hx2⟩
  · rw [if_neg h, if_neg h, if_neg h]
    have hd : (N : Int) / 9223372036854775808 = 0 := by omega
    go_enter Tryz.func36, Tryz.ntmps36
    go_wp2_with (go_at_call 70; refine (rnumber_ok HX.out 8 (by omega) hs).mono ?_; rintro e w3 ⟨rfl, hx3⟩; rw [HN.out]; have HX3 := Lib.hid hx3; clear hx3)
    go_ret
    exact ⟨rfl, HX3.out⟩
end Go.Proofs.YtodjdcdbmbmbmaaGreatDoor
