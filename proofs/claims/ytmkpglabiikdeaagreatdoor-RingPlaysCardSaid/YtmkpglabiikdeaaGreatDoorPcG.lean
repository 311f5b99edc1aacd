/-
  posthouse/piece.Get and the document's Get of a piece, walked.
-/
import Derived.Laws.ResultCell
import Derived.Test.YtmkpglabiikdeaaGreatDoorPcW
import Derived.Test.YtmkpglabiikdeaaGreatDoorRdFix
namespace Go.Proofs.YtmkpglabiikdeaaGreatDoor
open Go.RowKit PH

def getPcV (s : ByteArray) : Pc := match getPc s with
  | some p => p
  | none => noPc
def getPcE (s : ByteArray) : Int := match getPc s with
  | some _ => 0
  | none => 14
def getPcB (s : ByteArray) : Bool := (getPc s).isSome
theorem getPc_yes {s : ByteArray} {p : Pc} (h : getPc s = some p) : getPcV s = p ∧ getPcE s = 0 ∧ getPcB s = true := by unfold getPcV getPcE getPcB; rw [h]; exact ⟨rfl, rfl, rfl⟩
theorem getPc_no {s : ByteArray} (h : getPc s = none) : getPcV s = noPc ∧ getPcE s = 14 ∧ getPcB s = false := by unfold getPcV getPcE getPcB; rw [h]; exact ⟨rfl, rfl, rfl⟩
theorem getPc_none {s : ByteArray} (h : ¬ (s.size = 128 ∧ fld s 4 8 ≤ 9223372036854775807 ∧ fld s 20 4 ≤ 100 ∧ okPc (pcOfB s) = true ∧ pcB (pcOfB s) = s)) : getPc s = none := by
  unfold getPc; rw [if_neg h]
theorem getPc_sum {s : ByteArray} (hz : s.size = 128) (h : sumOf (s.extract 0 124) ≠ fld s 124 4) : getPc s = none := by
  cases hg : getPc s with
  | none => rfl
  | some p =>
    exfalso
    obtain ⟨_, _, k, hb, hq, _⟩ := getPc_some hg
    subst hb
    have d2 := okPc_data k
    apply h
    have e1 : (pcB p).extract 0 124 = bs (pcF p) := by
      apply lst_inj
      rw [lst_extract, pcB_lst, lst_bs (pcF_ok p), List.drop_zero]
      unfold pcS
      rw [List.take_append_of_le_length (by rw [pcF_len d2]; omega), List.take_of_length_le (by rw [pcF_len d2]; omega)]
    have e2 : fld (pcB p) 124 4 = sumOf (bs (pcF p)) := by
      rw [fld_val (by omega), pcB_lst]
      unfold pcS
      rw [List.drop_append, List.drop_of_length_le (by rw [pcF_len d2]; omega), pcF_len d2, List.nil_append, List.drop_zero, List.take_of_length_le (by rw [numL_len]; omega), valL_numL]
      have := sumOf_lt (bs (pcF p))
      omega
    rw [e1, e2]
theorem left_data {s : ByteArray} (hz : s.size = 128) {m : Nat} (hm : m ≤ 100) : ((left s 24).extract 0 100).extract 0 m = s.extract 24 (24 + m) := by
  unfold left
  rw [ByteArray.extract_extract, ByteArray.extract_extract]
  congr 1 <;> omega
theorem left_124 {s : ByteArray} (hz : s.size = 128) : (left s 24).extract 100 (left s 24).size = left s 124 := (left_left s 24 100 (by omega)).symm
theorem toList_ne {T s : ByteArray} (h : T ≠ s) : (T.toList == s.toList) = false := by
  rw [← beq_toListBytes]
  cases hb : T == s with
  | false => rfl
  | true =>
    have : (T.data == s.data) = true := hb
    exact absurd (ByteArray.ext (eq_of_beq this)) h

attribute [local irreducible] fld pcB pcOfB left
set_option maxRecDepth 100000 in
set_option maxHeartbeats 3200000 in
theorem pcGet_size {E W : World} {L : List HP} (x : Sat E W L) (s : ByteArray) (_hs : s.size ≤ 9223372036854775807) (hz : s.size ≠ 128) : Calls Tryz.prog 14 #[.string s] W fun e w' => e = .returned (.tuple #[.agg noPc.arr, .int .i64 14]) ∧ Sat E w' L := by
  have hx1 := zp x
  obtain ⟨q, hq⟩ : ∃ q, W.heap.size = q := ⟨_, rfl⟩
  rw [hq] at hx1
  have HX1 := Lib.hid hx1
  clear hx1 x
  have hb : ((s.size : Int) != 128) = true := by simp; omega
  go_enter Tryz.func14, Tryz.ntmps14
  go_wp2_with ((with_reducible refine wpList_store_pc HX1.out noPc ?_ ?_; exact ⟨rfl, _, _, rfl, rfl, rfl⟩; intro w9 hx9; have HX9 := Lib.hid hx9; clear hx9))
  refine bodyPost_ret (v := .tuple #[.agg noPc.arr, .int .i64 14]) ?_ rfl ⟨rfl, HX9.out.tail⟩
  rw [results_cell_tmp rfl]
  simp [asAddr, load_pc HX9.out, Result.andThen]

set_option maxRecDepth 100000 in
set_option maxHeartbeats 3200000 in
theorem pcGet_len {E W : World} {L : List HP} (x : Sat E W L) (s : ByteArray) (hz : s.size = 128) (hg : fld s 4 8 ≤ 9223372036854775807) (hlen : ¬ fld s 20 4 ≤ 100) : Calls Tryz.prog 14 #[.string s] W fun e w' => e = .returned (.tuple #[.agg noPc.arr, .int .i64 14]) ∧ Sat E w' L := by
  have hx1 := zp x
  obtain ⟨q, hq⟩ : ∃ q, W.heap.size = q := ⟨_, rfl⟩
  rw [hq] at hx1
  obtain ⟨e, he⟩ : ∃ e, fld s 0 4 = e := ⟨_, rfl⟩
  obtain ⟨sq, hsq⟩ : ∃ e, fld s 4 8 = e := ⟨_, rfl⟩
  obtain ⟨t, ht⟩ : ∃ e, fld s 12 4 = e := ⟨_, rfl⟩
  obtain ⟨n, hn⟩ : ∃ e, fld s 16 4 = e := ⟨_, rfl⟩
  obtain ⟨m, hm⟩ : ∃ e, fld s 20 4 = e := ⟨_, rfl⟩
  obtain ⟨X, hX⟩ : ∃ X, s.extract 24 (24 + m) = X := ⟨_, rfl⟩
  obtain ⟨p, hp⟩ : ∃ p, pcOfB s = p := ⟨_, rfl⟩
  have hpe : p = ⟨e, sq, t, n, X⟩ := by rw [← hp]; unfold pcOfB; rw [he, hsq, ht, hn, hm, hX]
  have he0 : e < 4294967296 := by rw [← he]; exact fld_lt s 0 4
  have ht0 : t < 4294967296 := by rw [← ht]; exact fld_lt s 12 4
  have hn0 : n < 4294967296 := by rw [← hn]; exact fld_lt s 16 4
  have hm0 : m < 4294967296 := by rw [← hm]; exact fld_lt s 20 4
  obtain ⟨DA, hda⟩ : ∃ D, (left s 24).extract 0 100 = D := ⟨_, rfl⟩
  have hds : DA.size = 100 := by rw [← hda, ByteArray.size_extract, left_size]; omega
  have hl4 := left_124 hz
  rw [hsq] at hg
  rw [hm] at hlen
  have hlt : (100 : Int) < (m : Int) := by omega
  have F0 := Lib.hid he
  have F1 := Lib.hid hsq
  have F2 := Lib.hid ht
  have F3 := Lib.hid hn
  have F4 := Lib.hid hm
  have HXX := Lib.hid hX
  have HPP := Lib.hid hp
  have HPE := Lib.hid hpe
  have HX1 := Lib.hid hx1
  have HDA := Lib.hid hda
  have HL4 := Lib.hid hl4
  clear he hsq ht hn hm hX hp hpe hx1 x
  clear hda hl4
  go_enter Tryz.func14, Tryz.ntmps14
  go_wp2_with (first
    | (go_at_call 47; refine (rRead_ok HX1.out s).mono ?_; rintro e1 w1 ⟨b, rfl, hx1⟩; have hx2 : Sat E w1 (isRd b (left s 0) 0 :: pt q (.cells noPc.arr 23) :: L) := by rw [left_all]; exact hx1
       have HX2 := Lib.hid hx2; clear hx1 hx2)
    | (go_at_call 48; refine (rU32_at (p := 0) HX2.out (by omega) (by omega)).mono ?_; rintro e3 w3 ⟨rfl, hx3⟩; rw [F0.out]; have HX3 := Lib.hid hx3; clear hx3)
    | (go_at_call 49; refine (rU64_at (p := 4) HX3.out (by omega) (by omega) (by rw [F1.out]; omega)).mono ?_; rintro e4 w4 ⟨rfl, hx4⟩; rw [F1.out]; have HX4 := Lib.hid hx4; clear hx4)
    | (go_at_call 48; refine (rU32_at (p := 12) HX4.out (by omega) (by omega)).mono ?_; rintro e5 w5 ⟨rfl, hx5⟩; rw [F2.out]; have HX5 := Lib.hid hx5; clear hx5)
    | (go_at_call 48; refine (rU32_at (p := 16) HX5.out (by omega) (by omega)).mono ?_; rintro e6 w6 ⟨rfl, hx6⟩; rw [F3.out]; obtain ⟨h, hh⟩ : ∃ h, w6.heap.size = h := ⟨_, rfl⟩; have hx6 := zp hx6; rw [hh] at hx6; have HX6 := Lib.hid hx6; clear hx6)
    | (with_reducible refine wpList_store_pc HX6.out ⟨e, sq, t, n, ByteArray.empty⟩ ?_ ?_; exact ⟨rfl, _, _, rfl, rfl, rfl⟩; intro w7 hx7; have HX7 := Lib.hid hx7; clear hx7)
    | (go_at_call 48; refine (rU32_at (p := 20) HX7.out.p1 (by omega) (by omega)).mono ?_; rintro e8 w8 ⟨rfl, hx8⟩; rw [F4.out]; have HX8 := Lib.hid hx8; clear hx8)
    | (go_at_call 50; refine (rFixed_ok HX8.out (by rw [left_size]; omega) (by rw [left_size]; omega)).mono ?_; rintro e9 w9 ⟨rfl, hx9⟩; rw [HL4.out] at hx9; rw [HDA.out]; have HX9 := Lib.hid hx9; clear hx9)
    | (go_at_call 51; refine (rErr_ok HX9.out).mono ?_; rintro e10 w10 ⟨rfl, rfl⟩)
    | (with_reducible refine wpList_store_pc HX9.out.p2 noPc ?_ ?_; exact ⟨rfl, _, _, rfl, rfl, rfl⟩; intro w9 hx9; have HX9 := Lib.hid hx9; clear hx9))
  refine bodyPost_ret (v := .tuple #[.agg noPc.arr, .int .i64 14]) ?_ rfl ⟨rfl, HX9.out.tail.tail.tail⟩
  rw [results_cell_tmp rfl]
  simp [asAddr, load_pc HX9.out, Result.andThen]

set_option maxRecDepth 100000 in
set_option maxHeartbeats 3200000 in
theorem pcGet_sum {E W : World} {L : List HP} (x : Sat E W L) (s : ByteArray) (hz : s.size = 128) (hg : fld s 4 8 ≤ 9223372036854775807) (hlen : fld s 20 4 ≤ 100) (hsum : sumOf (s.extract 0 124) ≠ fld s 124 4) : Calls Tryz.prog 14 #[.string s] W fun e w' => e = .returned (.tuple #[.agg noPc.arr, .int .i64 14]) ∧ Sat E w' L := by
  have hx1 := zp x
  obtain ⟨q, hq⟩ : ∃ q, W.heap.size = q := ⟨_, rfl⟩
  rw [hq] at hx1
  obtain ⟨e, he⟩ : ∃ e, fld s 0 4 = e := ⟨_, rfl⟩
  obtain ⟨sq, hsq⟩ : ∃ e, fld s 4 8 = e := ⟨_, rfl⟩
  obtain ⟨t, ht⟩ : ∃ e, fld s 12 4 = e := ⟨_, rfl⟩
  obtain ⟨n, hn⟩ : ∃ e, fld s 16 4 = e := ⟨_, rfl⟩
  obtain ⟨m, hm⟩ : ∃ e, fld s 20 4 = e := ⟨_, rfl⟩
  obtain ⟨X, hX⟩ : ∃ X, s.extract 24 (24 + m) = X := ⟨_, rfl⟩
  obtain ⟨p, hp⟩ : ∃ p, pcOfB s = p := ⟨_, rfl⟩
  have hpe : p = ⟨e, sq, t, n, X⟩ := by rw [← hp]; unfold pcOfB; rw [he, hsq, ht, hn, hm, hX]
  have he0 : e < 4294967296 := by rw [← he]; exact fld_lt s 0 4
  have ht0 : t < 4294967296 := by rw [← ht]; exact fld_lt s 12 4
  have hn0 : n < 4294967296 := by rw [← hn]; exact fld_lt s 16 4
  have hm0 : m < 4294967296 := by rw [← hm]; exact fld_lt s 20 4
  obtain ⟨DA, hda⟩ : ∃ D, (left s 24).extract 0 100 = D := ⟨_, rfl⟩
  have hds : DA.size = 100 := by rw [← hda, ByteArray.size_extract, left_size]; omega
  have hl4 := left_124 hz
  rw [hsq] at hg
  rw [hm] at hlen
  obtain ⟨N, hN⟩ : ∃ N, fld s 124 4 = N := ⟨_, rfl⟩
  have hN0 : N < 4294967296 := by rw [← hN]; exact fld_lt s 124 4
  obtain ⟨S, hS⟩ : ∃ N, sumOf (s.extract 0 124) = N := ⟨_, rfl⟩
  rw [hN, hS] at hsum
  have hmod : (N : Int) % 4294967296 = (N : Int) := by omega
  have F5 := Lib.hid hN
  have HSS := Lib.hid hS
  clear hN hS
  have hne : ((S : Int) != (N : Int)) = true := by simp; omega
  have F0 := Lib.hid he
  have F1 := Lib.hid hsq
  have F2 := Lib.hid ht
  have F3 := Lib.hid hn
  have F4 := Lib.hid hm
  have HXX := Lib.hid hX
  have HPP := Lib.hid hp
  have HPE := Lib.hid hpe
  have HX1 := Lib.hid hx1
  have HDA := Lib.hid hda
  have HL4 := Lib.hid hl4
  clear he hsq ht hn hm hX hp hpe hx1 x
  clear hda hl4
  go_enter Tryz.func14, Tryz.ntmps14
  go_wp2_with (first
    | (go_at_call 47; refine (rRead_ok HX1.out s).mono ?_; rintro e1 w1 ⟨b, rfl, hx1⟩; have hx2 : Sat E w1 (isRd b (left s 0) 0 :: pt q (.cells noPc.arr 23) :: L) := by rw [left_all]; exact hx1
       have HX2 := Lib.hid hx2; clear hx1 hx2)
    | (go_at_call 48; refine (rU32_at (p := 0) HX2.out (by omega) (by omega)).mono ?_; rintro e3 w3 ⟨rfl, hx3⟩; rw [F0.out]; have HX3 := Lib.hid hx3; clear hx3)
    | (go_at_call 49; refine (rU64_at (p := 4) HX3.out (by omega) (by omega) (by rw [F1.out]; omega)).mono ?_; rintro e4 w4 ⟨rfl, hx4⟩; rw [F1.out]; have HX4 := Lib.hid hx4; clear hx4)
    | (go_at_call 48; refine (rU32_at (p := 12) HX4.out (by omega) (by omega)).mono ?_; rintro e5 w5 ⟨rfl, hx5⟩; rw [F2.out]; have HX5 := Lib.hid hx5; clear hx5)
    | (go_at_call 48; refine (rU32_at (p := 16) HX5.out (by omega) (by omega)).mono ?_; rintro e6 w6 ⟨rfl, hx6⟩; rw [F3.out]; obtain ⟨h, hh⟩ : ∃ h, w6.heap.size = h := ⟨_, rfl⟩; have hx6 := zp hx6; rw [hh] at hx6; have HX6 := Lib.hid hx6; clear hx6)
    | (with_reducible refine wpList_store_pc HX6.out ⟨e, sq, t, n, ByteArray.empty⟩ ?_ ?_; exact ⟨rfl, _, _, rfl, rfl, rfl⟩; intro w7 hx7; have HX7 := Lib.hid hx7; clear hx7)
    | (go_at_call 48; refine (rU32_at (p := 20) HX7.out.p1 (by omega) (by omega)).mono ?_; rintro e8 w8 ⟨rfl, hx8⟩; rw [F4.out]; have HX8 := Lib.hid hx8; clear hx8)
    | (go_at_call 50; refine (rFixed_ok HX8.out (by rw [left_size]; omega) (by rw [left_size]; omega)).mono ?_; rintro e9 w9 ⟨rfl, hx9⟩; rw [HL4.out] at hx9; rw [HDA.out]; have HX9 := Lib.hid hx9; clear hx9)
    | (go_at_call 51; refine (rErr_ok HX9.out).mono ?_; rintro e10 w10 ⟨rfl, rfl⟩)
    | (go_at_call 42; refine (sumOf_ok HX9.out (s.extract 0 124) (by rw [ByteArray.size_extract]; omega)).mono ?_; rintro e10 w10 ⟨rfl, hx10⟩; rw [HSS.out]; have HX10 := Lib.hid hx10; clear hx10)
    | (go_at_call 48; refine (rU32_at (p := 124) HX10.out (by omega) (by omega)).mono ?_; rintro e11 w11 ⟨rfl, hx11⟩; rw [F5.out]; have HX11 := Lib.hid hx11; clear hx11)
    | (with_reducible refine wpList_store_pc HX11.out.p2 noPc ?_ ?_; exact ⟨rfl, _, _, rfl, rfl, rfl⟩; intro w9 hx9; have HX9 := Lib.hid hx9; clear hx9))
  refine bodyPost_ret (v := .tuple #[.agg noPc.arr, .int .i64 14]) ?_ rfl ⟨rfl, HX9.out.tail.tail.tail⟩
  rw [results_cell_tmp rfl]
  simp [asAddr, load_pc HX9.out, Result.andThen]

set_option maxRecDepth 100000 in
set_option maxHeartbeats 3200000 in
theorem pcGet_bad {E W : World} {L : List HP} (x : Sat E W L) (s : ByteArray) (hz : s.size = 128) (hg : fld s 4 8 ≤ 9223372036854775807) (hlen : fld s 20 4 ≤ 100) (hsum : sumOf (s.extract 0 124) = fld s 124 4) (hok : okPc (pcOfB s) = false) : Calls Tryz.prog 14 #[.string s] W fun e w' => e = .returned (.tuple #[.agg noPc.arr, .int .i64 14]) ∧ Sat E w' L := by
  have hx1 := zp x
  obtain ⟨q, hq⟩ : ∃ q, W.heap.size = q := ⟨_, rfl⟩
  rw [hq] at hx1
  obtain ⟨e, he⟩ : ∃ e, fld s 0 4 = e := ⟨_, rfl⟩
  obtain ⟨sq, hsq⟩ : ∃ e, fld s 4 8 = e := ⟨_, rfl⟩
  obtain ⟨t, ht⟩ : ∃ e, fld s 12 4 = e := ⟨_, rfl⟩
  obtain ⟨n, hn⟩ : ∃ e, fld s 16 4 = e := ⟨_, rfl⟩
  obtain ⟨m, hm⟩ : ∃ e, fld s 20 4 = e := ⟨_, rfl⟩
  obtain ⟨X, hX⟩ : ∃ X, s.extract 24 (24 + m) = X := ⟨_, rfl⟩
  obtain ⟨p, hp⟩ : ∃ p, pcOfB s = p := ⟨_, rfl⟩
  have hpe : p = ⟨e, sq, t, n, X⟩ := by rw [← hp]; unfold pcOfB; rw [he, hsq, ht, hn, hm, hX]
  have he0 : e < 4294967296 := by rw [← he]; exact fld_lt s 0 4
  have ht0 : t < 4294967296 := by rw [← ht]; exact fld_lt s 12 4
  have hn0 : n < 4294967296 := by rw [← hn]; exact fld_lt s 16 4
  have hm0 : m < 4294967296 := by rw [← hm]; exact fld_lt s 20 4
  obtain ⟨DA, hda⟩ : ∃ D, (left s 24).extract 0 100 = D := ⟨_, rfl⟩
  have hds : DA.size = 100 := by rw [← hda, ByteArray.size_extract, left_size]; omega
  have hl4 := left_124 hz
  rw [hsq] at hg
  rw [hm] at hlen
  obtain ⟨N, hN⟩ : ∃ N, fld s 124 4 = N := ⟨_, rfl⟩
  have hN0 : N < 4294967296 := by rw [← hN]; exact fld_lt s 124 4
  obtain ⟨S, hS⟩ : ∃ N, sumOf (s.extract 0 124) = N := ⟨_, rfl⟩
  rw [hN, hS] at hsum
  have hmod : (N : Int) % 4294967296 = (N : Int) := by omega
  have F5 := Lib.hid hN
  have HSS := Lib.hid hS
  clear hN hS
  subst hsum
  have hcut : DA.extract 0 m = X := by rw [← hda, ← hX]; exact left_data hz hlen
  have hXs : X.size ≤ 9223372036854775807 := by rw [← hX, ByteArray.size_extract]; omega
  have hpd : p.data.size ≤ 9223372036854775807 := by rw [hpe]; exact hXs
  have hpq : p.seq ≤ 9223372036854775807 := by rw [hpe]; show (sq : Int) ≤ _; omega
  have hpa : p.arr = #[.int .i64 e, .int .i64 sq, .int .i64 t, .int .i64 n, .string X] := by rw [hpe]; rfl
  rw [hp] at hok
  have HPD := Lib.hid hpd
  have HPQ := Lib.hid hpq
  have HPA := Lib.hid hpa
  clear hpd hpq hpa
  have hput : putB p = ByteArray.empty := putB_no hok
  have hchk : chk p = 14 := by unfold chk; rw [hok]; rfl
  have HPUT := Lib.hid hput
  have HCHK := Lib.hid hchk
  clear hput hchk hok
  have F0 := Lib.hid he
  have F1 := Lib.hid hsq
  have F2 := Lib.hid ht
  have F3 := Lib.hid hn
  have F4 := Lib.hid hm
  have HXX := Lib.hid hX
  have HPP := Lib.hid hp
  have HPE := Lib.hid hpe
  have HX1 := Lib.hid hx1
  have HDA := Lib.hid hda
  have HL4 := Lib.hid hl4
  clear he hsq ht hn hm hX hp hpe hx1 x
  clear hda hl4
  go_enter Tryz.func14, Tryz.ntmps14
  go_wp2_with (first
    | (go_at_call 47; refine (rRead_ok HX1.out s).mono ?_; rintro e1 w1 ⟨b, rfl, hx1⟩; have hx2 : Sat E w1 (isRd b (left s 0) 0 :: pt q (.cells noPc.arr 23) :: L) := by rw [left_all]; exact hx1
       have HX2 := Lib.hid hx2; clear hx1 hx2)
    | (go_at_call 48; refine (rU32_at (p := 0) HX2.out (by omega) (by omega)).mono ?_; rintro e3 w3 ⟨rfl, hx3⟩; rw [F0.out]; have HX3 := Lib.hid hx3; clear hx3)
    | (go_at_call 49; refine (rU64_at (p := 4) HX3.out (by omega) (by omega) (by rw [F1.out]; omega)).mono ?_; rintro e4 w4 ⟨rfl, hx4⟩; rw [F1.out]; have HX4 := Lib.hid hx4; clear hx4)
    | (go_at_call 48; refine (rU32_at (p := 12) HX4.out (by omega) (by omega)).mono ?_; rintro e5 w5 ⟨rfl, hx5⟩; rw [F2.out]; have HX5 := Lib.hid hx5; clear hx5)
    | (go_at_call 48; refine (rU32_at (p := 16) HX5.out (by omega) (by omega)).mono ?_; rintro e6 w6 ⟨rfl, hx6⟩; rw [F3.out]; obtain ⟨h, hh⟩ : ∃ h, w6.heap.size = h := ⟨_, rfl⟩; have hx6 := zp hx6; rw [hh] at hx6; have HX6 := Lib.hid hx6; clear hx6)
    | (with_reducible refine wpList_store_pc HX6.out ⟨e, sq, t, n, ByteArray.empty⟩ ?_ ?_; exact ⟨rfl, _, _, rfl, rfl, rfl⟩; intro w7 hx7; have HX7 := Lib.hid hx7; clear hx7)
    | (go_at_call 48; refine (rU32_at (p := 20) HX7.out.p1 (by omega) (by omega)).mono ?_; rintro e8 w8 ⟨rfl, hx8⟩; rw [F4.out]; have HX8 := Lib.hid hx8; clear hx8)
    | (go_at_call 50; refine (rFixed_ok HX8.out (by rw [left_size]; omega) (by rw [left_size]; omega)).mono ?_; rintro e9 w9 ⟨rfl, hx9⟩; rw [HL4.out] at hx9; rw [HDA.out]; have HX9 := Lib.hid hx9; clear hx9)
    | (go_at_call 51; refine (rErr_ok HX9.out).mono ?_; rintro e10 w10 ⟨rfl, rfl⟩)
    | (go_at_call 42; refine (sumOf_ok HX9.out (s.extract 0 124) (by rw [ByteArray.size_extract]; omega)).mono ?_; rintro e10 w10 ⟨rfl, hx10⟩; rw [HSS.out]; have HX10 := Lib.hid hx10; clear hx10)
    | (go_at_call 48; refine (rU32_at (p := 124) HX10.out (by omega) (by omega)).mono ?_; rintro e11 w11 ⟨rfl, hx11⟩; rw [F5.out]; obtain ⟨d0, d1, d2, d3, c4⟩ := pc5 hx11.p1; dsimp only at d0 d1 d2 d3 c4; have f4 := frozen_blk hx11.p1.at 4; have HX11 := Lib.hid hx11; clear hx11)
    | (go_at_call 11; go_loud (have hx12 : Sat E (w11.setCell ⟨h, 4, none⟩ (.string X)) (pt h (.cells p.arr 23) :: isRd b (left s 128) 0 :: pt q (.cells noPc.arr 23) :: L) := (by rw [HPE.out]; exact HX11.out.p1.setCell 4 (.string X)); have hput := pcPut_ok hx12 p HPD.out HPQ.out; rw [HPA.out] at hput; refine hput.mono ?_; clear hput hx12 d0 d1 d2 d3 c4 f4; rintro e13 w13 ⟨rfl, hx13⟩; rw [HPUT.out, HCHK.out]; obtain ⟨d0, d1, d2, d3, d4⟩ := pc5 (p := ⟨e, sq, t, n, X⟩) hx13; dsimp only at d0 d1 d2 d3 d4; have HX13 := Lib.hid hx13; clear hx13))
    | (with_reducible refine wpList_store_pc HX13.out.p2 noPc ?_ ?_; exact ⟨rfl, _, _, rfl, rfl, rfl⟩; intro w9 hx9; have HX9 := Lib.hid hx9; clear hx9))
  refine bodyPost_ret (v := .tuple #[.agg noPc.arr, .int .i64 14]) ?_ rfl ⟨rfl, HX9.out.tail.tail.tail⟩
  rw [results_cell_tmp rfl]
  simp [asAddr, load_pc HX9.out, Result.andThen]

set_option maxRecDepth 100000 in
set_option maxHeartbeats 3200000 in
theorem pcGet_diff {E W : World} {L : List HP} (x : Sat E W L) (s : ByteArray) (hz : s.size = 128) (hg : fld s 4 8 ≤ 9223372036854775807) (hlen : fld s 20 4 ≤ 100) (hsum : sumOf (s.extract 0 124) = fld s 124 4) (hok : okPc (pcOfB s) = true) (hd : pcB (pcOfB s) ≠ s) : Calls Tryz.prog 14 #[.string s] W fun e w' => e = .returned (.tuple #[.agg noPc.arr, .int .i64 14]) ∧ Sat E w' L := by
  have hx1 := zp x
  obtain ⟨q, hq⟩ : ∃ q, W.heap.size = q := ⟨_, rfl⟩
  rw [hq] at hx1
  obtain ⟨e, he⟩ : ∃ e, fld s 0 4 = e := ⟨_, rfl⟩
  obtain ⟨sq, hsq⟩ : ∃ e, fld s 4 8 = e := ⟨_, rfl⟩
  obtain ⟨t, ht⟩ : ∃ e, fld s 12 4 = e := ⟨_, rfl⟩
  obtain ⟨n, hn⟩ : ∃ e, fld s 16 4 = e := ⟨_, rfl⟩
  obtain ⟨m, hm⟩ : ∃ e, fld s 20 4 = e := ⟨_, rfl⟩
  obtain ⟨X, hX⟩ : ∃ X, s.extract 24 (24 + m) = X := ⟨_, rfl⟩
  obtain ⟨p, hp⟩ : ∃ p, pcOfB s = p := ⟨_, rfl⟩
  have hpe : p = ⟨e, sq, t, n, X⟩ := by rw [← hp]; unfold pcOfB; rw [he, hsq, ht, hn, hm, hX]
  have he0 : e < 4294967296 := by rw [← he]; exact fld_lt s 0 4
  have ht0 : t < 4294967296 := by rw [← ht]; exact fld_lt s 12 4
  have hn0 : n < 4294967296 := by rw [← hn]; exact fld_lt s 16 4
  have hm0 : m < 4294967296 := by rw [← hm]; exact fld_lt s 20 4
  obtain ⟨DA, hda⟩ : ∃ D, (left s 24).extract 0 100 = D := ⟨_, rfl⟩
  have hds : DA.size = 100 := by rw [← hda, ByteArray.size_extract, left_size]; omega
  have hl4 := left_124 hz
  rw [hsq] at hg
  rw [hm] at hlen
  obtain ⟨N, hN⟩ : ∃ N, fld s 124 4 = N := ⟨_, rfl⟩
  have hN0 : N < 4294967296 := by rw [← hN]; exact fld_lt s 124 4
  obtain ⟨S, hS⟩ : ∃ N, sumOf (s.extract 0 124) = N := ⟨_, rfl⟩
  rw [hN, hS] at hsum
  have hmod : (N : Int) % 4294967296 = (N : Int) := by omega
  have F5 := Lib.hid hN
  have HSS := Lib.hid hS
  clear hN hS
  subst hsum
  have hcut : DA.extract 0 m = X := by rw [← hda, ← hX]; exact left_data hz hlen
  have hXs : X.size ≤ 9223372036854775807 := by rw [← hX, ByteArray.size_extract]; omega
  have hpd : p.data.size ≤ 9223372036854775807 := by rw [hpe]; exact hXs
  have hpq : p.seq ≤ 9223372036854775807 := by rw [hpe]; show (sq : Int) ≤ _; omega
  have hpa : p.arr = #[.int .i64 e, .int .i64 sq, .int .i64 t, .int .i64 n, .string X] := by rw [hpe]; rfl
  rw [hp] at hok
  have HPD := Lib.hid hpd
  have HPQ := Lib.hid hpq
  have HPA := Lib.hid hpa
  clear hpd hpq hpa
  rw [hp] at hd
  obtain ⟨T, hT⟩ : ∃ T, pcB p = T := ⟨_, rfl⟩
  have hput : putB p = T := (putB_yes hok).trans hT
  have hchk : chk p = 0 := by unfold chk; rw [hok]; rfl
  rw [hT] at hd
  have hne := toList_ne hd
  clear hT hd
  have HPUT := Lib.hid hput
  have HCHK := Lib.hid hchk
  clear hput hchk hok
  have F0 := Lib.hid he
  have F1 := Lib.hid hsq
  have F2 := Lib.hid ht
  have F3 := Lib.hid hn
  have F4 := Lib.hid hm
  have HXX := Lib.hid hX
  have HPP := Lib.hid hp
  have HPE := Lib.hid hpe
  have HX1 := Lib.hid hx1
  have HDA := Lib.hid hda
  have HL4 := Lib.hid hl4
  clear he hsq ht hn hm hX hp hpe hx1 x
  clear hda hl4
  go_enter Tryz.func14, Tryz.ntmps14
  go_wp2_with (first
    | (go_at_call 47; refine (rRead_ok HX1.out s).mono ?_; rintro e1 w1 ⟨b, rfl, hx1⟩; have hx2 : Sat E w1 (isRd b (left s 0) 0 :: pt q (.cells noPc.arr 23) :: L) := by rw [left_all]; exact hx1
       have HX2 := Lib.hid hx2; clear hx1 hx2)
    | (go_at_call 48; refine (rU32_at (p := 0) HX2.out (by omega) (by omega)).mono ?_; rintro e3 w3 ⟨rfl, hx3⟩; rw [F0.out]; have HX3 := Lib.hid hx3; clear hx3)
    | (go_at_call 49; refine (rU64_at (p := 4) HX3.out (by omega) (by omega) (by rw [F1.out]; omega)).mono ?_; rintro e4 w4 ⟨rfl, hx4⟩; rw [F1.out]; have HX4 := Lib.hid hx4; clear hx4)
    | (go_at_call 48; refine (rU32_at (p := 12) HX4.out (by omega) (by omega)).mono ?_; rintro e5 w5 ⟨rfl, hx5⟩; rw [F2.out]; have HX5 := Lib.hid hx5; clear hx5)
    | (go_at_call 48; refine (rU32_at (p := 16) HX5.out (by omega) (by omega)).mono ?_; rintro e6 w6 ⟨rfl, hx6⟩; rw [F3.out]; obtain ⟨h, hh⟩ : ∃ h, w6.heap.size = h := ⟨_, rfl⟩; have hx6 := zp hx6; rw [hh] at hx6; have HX6 := Lib.hid hx6; clear hx6)
    | (with_reducible refine wpList_store_pc HX6.out ⟨e, sq, t, n, ByteArray.empty⟩ ?_ ?_; exact ⟨rfl, _, _, rfl, rfl, rfl⟩; intro w7 hx7; have HX7 := Lib.hid hx7; clear hx7)
    | (go_at_call 48; refine (rU32_at (p := 20) HX7.out.p1 (by omega) (by omega)).mono ?_; rintro e8 w8 ⟨rfl, hx8⟩; rw [F4.out]; have HX8 := Lib.hid hx8; clear hx8)
    | (go_at_call 50; refine (rFixed_ok HX8.out (by rw [left_size]; omega) (by rw [left_size]; omega)).mono ?_; rintro e9 w9 ⟨rfl, hx9⟩; rw [HL4.out] at hx9; rw [HDA.out]; have HX9 := Lib.hid hx9; clear hx9)
    | (go_at_call 51; refine (rErr_ok HX9.out).mono ?_; rintro e10 w10 ⟨rfl, rfl⟩)
    | (go_at_call 42; refine (sumOf_ok HX9.out (s.extract 0 124) (by rw [ByteArray.size_extract]; omega)).mono ?_; rintro e10 w10 ⟨rfl, hx10⟩; rw [HSS.out]; have HX10 := Lib.hid hx10; clear hx10)
    | (go_at_call 48; refine (rU32_at (p := 124) HX10.out (by omega) (by omega)).mono ?_; rintro e11 w11 ⟨rfl, hx11⟩; rw [F5.out]; obtain ⟨d0, d1, d2, d3, c4⟩ := pc5 hx11.p1; dsimp only at d0 d1 d2 d3 c4; have f4 := frozen_blk hx11.p1.at 4; have HX11 := Lib.hid hx11; clear hx11)
    | (go_at_call 11; go_loud (have hx12 : Sat E (w11.setCell ⟨h, 4, none⟩ (.string X)) (pt h (.cells p.arr 23) :: isRd b (left s 128) 0 :: pt q (.cells noPc.arr 23) :: L) := (by rw [HPE.out]; exact HX11.out.p1.setCell 4 (.string X)); have hput := pcPut_ok hx12 p HPD.out HPQ.out; rw [HPA.out] at hput; refine hput.mono ?_; clear hput hx12 d0 d1 d2 d3 c4 f4; rintro e13 w13 ⟨rfl, hx13⟩; rw [HPUT.out, HCHK.out]; obtain ⟨d0, d1, d2, d3, d4⟩ := pc5 (p := ⟨e, sq, t, n, X⟩) hx13; dsimp only at d0 d1 d2 d3 d4; have HX13 := Lib.hid hx13; clear hx13))
    | (with_reducible refine wpList_store_pc HX13.out.p2 noPc ?_ ?_; exact ⟨rfl, _, _, rfl, rfl, rfl⟩; intro w9 hx9; have HX9 := Lib.hid hx9; clear hx9))
  refine bodyPost_ret (v := .tuple #[.agg noPc.arr, .int .i64 14]) ?_ rfl ⟨rfl, HX9.out.tail.tail.tail⟩
  rw [results_cell_tmp rfl]
  simp [asAddr, load_pc HX9.out, Result.andThen]

set_option maxRecDepth 100000 in
set_option maxHeartbeats 3200000 in
theorem pcGet_yes {E W : World} {L : List HP} (x : Sat E W L) (s : ByteArray) (hz : s.size = 128) (hg : fld s 4 8 ≤ 9223372036854775807) (hlen : fld s 20 4 ≤ 100) (hsum : sumOf (s.extract 0 124) = fld s 124 4) (hok : okPc (pcOfB s) = true) (hd : pcB (pcOfB s) = s) : Calls Tryz.prog 14 #[.string s] W fun e w' => e = .returned (.tuple #[.agg (pcOfB s).arr, .int .i64 0]) ∧ Sat E w' L := by
  have hx1 := zp x
  obtain ⟨q, hq⟩ : ∃ q, W.heap.size = q := ⟨_, rfl⟩
  rw [hq] at hx1
  obtain ⟨e, he⟩ : ∃ e, fld s 0 4 = e := ⟨_, rfl⟩
  obtain ⟨sq, hsq⟩ : ∃ e, fld s 4 8 = e := ⟨_, rfl⟩
  obtain ⟨t, ht⟩ : ∃ e, fld s 12 4 = e := ⟨_, rfl⟩
  obtain ⟨n, hn⟩ : ∃ e, fld s 16 4 = e := ⟨_, rfl⟩
  obtain ⟨m, hm⟩ : ∃ e, fld s 20 4 = e := ⟨_, rfl⟩
  obtain ⟨X, hX⟩ : ∃ X, s.extract 24 (24 + m) = X := ⟨_, rfl⟩
  obtain ⟨p, hp⟩ : ∃ p, pcOfB s = p := ⟨_, rfl⟩
  have hpe : p = ⟨e, sq, t, n, X⟩ := by rw [← hp]; unfold pcOfB; rw [he, hsq, ht, hn, hm, hX]
  have he0 : e < 4294967296 := by rw [← he]; exact fld_lt s 0 4
  have ht0 : t < 4294967296 := by rw [← ht]; exact fld_lt s 12 4
  have hn0 : n < 4294967296 := by rw [← hn]; exact fld_lt s 16 4
  have hm0 : m < 4294967296 := by rw [← hm]; exact fld_lt s 20 4
  obtain ⟨DA, hda⟩ : ∃ D, (left s 24).extract 0 100 = D := ⟨_, rfl⟩
  have hds : DA.size = 100 := by rw [← hda, ByteArray.size_extract, left_size]; omega
  have hl4 := left_124 hz
  rw [hsq] at hg
  rw [hm] at hlen
  obtain ⟨N, hN⟩ : ∃ N, fld s 124 4 = N := ⟨_, rfl⟩
  have hN0 : N < 4294967296 := by rw [← hN]; exact fld_lt s 124 4
  obtain ⟨S, hS⟩ : ∃ N, sumOf (s.extract 0 124) = N := ⟨_, rfl⟩
  rw [hN, hS] at hsum
  have hmod : (N : Int) % 4294967296 = (N : Int) := by omega
  have F5 := Lib.hid hN
  have HSS := Lib.hid hS
  clear hN hS
  subst hsum
  have hcut : DA.extract 0 m = X := by rw [← hda, ← hX]; exact left_data hz hlen
  have hXs : X.size ≤ 9223372036854775807 := by rw [← hX, ByteArray.size_extract]; omega
  have hpd : p.data.size ≤ 9223372036854775807 := by rw [hpe]; exact hXs
  have hpq : p.seq ≤ 9223372036854775807 := by rw [hpe]; show (sq : Int) ≤ _; omega
  have hpa : p.arr = #[.int .i64 e, .int .i64 sq, .int .i64 t, .int .i64 n, .string X] := by rw [hpe]; rfl
  rw [hp] at hok
  have HPD := Lib.hid hpd
  have HPQ := Lib.hid hpq
  have HPA := Lib.hid hpa
  clear hpd hpq hpa
  rw [hp] at hd
  have hput : putB p = s := (putB_yes hok).trans hd
  have hchk : chk p = 0 := by unfold chk; rw [hok]; rfl
  clear hd
  have HPUT := Lib.hid hput
  have HCHK := Lib.hid hchk
  clear hput hchk hok
  have F0 := Lib.hid he
  have F1 := Lib.hid hsq
  have F2 := Lib.hid ht
  have F3 := Lib.hid hn
  have F4 := Lib.hid hm
  have HXX := Lib.hid hX
  have HPP := Lib.hid hp
  have HPE := Lib.hid hpe
  have HX1 := Lib.hid hx1
  have HDA := Lib.hid hda
  have HL4 := Lib.hid hl4
  rw [HPP.out]
  clear he hsq ht hn hm hX hp hpe hx1 x
  clear hda hl4
  go_enter Tryz.func14, Tryz.ntmps14
  go_wp2_with (first
    | (go_at_call 47; refine (rRead_ok HX1.out s).mono ?_; rintro e1 w1 ⟨b, rfl, hx1⟩; have hx2 : Sat E w1 (isRd b (left s 0) 0 :: pt q (.cells noPc.arr 23) :: L) := by rw [left_all]; exact hx1
       have HX2 := Lib.hid hx2; clear hx1 hx2)
    | (go_at_call 48; refine (rU32_at (p := 0) HX2.out (by omega) (by omega)).mono ?_; rintro e3 w3 ⟨rfl, hx3⟩; rw [F0.out]; have HX3 := Lib.hid hx3; clear hx3)
    | (go_at_call 49; refine (rU64_at (p := 4) HX3.out (by omega) (by omega) (by rw [F1.out]; omega)).mono ?_; rintro e4 w4 ⟨rfl, hx4⟩; rw [F1.out]; have HX4 := Lib.hid hx4; clear hx4)
    | (go_at_call 48; refine (rU32_at (p := 12) HX4.out (by omega) (by omega)).mono ?_; rintro e5 w5 ⟨rfl, hx5⟩; rw [F2.out]; have HX5 := Lib.hid hx5; clear hx5)
    | (go_at_call 48; refine (rU32_at (p := 16) HX5.out (by omega) (by omega)).mono ?_; rintro e6 w6 ⟨rfl, hx6⟩; rw [F3.out]; obtain ⟨h, hh⟩ : ∃ h, w6.heap.size = h := ⟨_, rfl⟩; have hx6 := zp hx6; rw [hh] at hx6; have HX6 := Lib.hid hx6; clear hx6)
    | (with_reducible refine wpList_store_pc HX6.out ⟨e, sq, t, n, ByteArray.empty⟩ ?_ ?_; exact ⟨rfl, _, _, rfl, rfl, rfl⟩; intro w7 hx7; have HX7 := Lib.hid hx7; clear hx7)
    | (go_at_call 48; refine (rU32_at (p := 20) HX7.out.p1 (by omega) (by omega)).mono ?_; rintro e8 w8 ⟨rfl, hx8⟩; rw [F4.out]; have HX8 := Lib.hid hx8; clear hx8)
    | (go_at_call 50; refine (rFixed_ok HX8.out (by rw [left_size]; omega) (by rw [left_size]; omega)).mono ?_; rintro e9 w9 ⟨rfl, hx9⟩; rw [HL4.out] at hx9; rw [HDA.out]; have HX9 := Lib.hid hx9; clear hx9)
    | (go_at_call 51; refine (rErr_ok HX9.out).mono ?_; rintro e10 w10 ⟨rfl, rfl⟩)
    | (go_at_call 42; refine (sumOf_ok HX9.out (s.extract 0 124) (by rw [ByteArray.size_extract]; omega)).mono ?_; rintro e10 w10 ⟨rfl, hx10⟩; rw [HSS.out]; have HX10 := Lib.hid hx10; clear hx10)
    | (go_at_call 48; refine (rU32_at (p := 124) HX10.out (by omega) (by omega)).mono ?_; rintro e11 w11 ⟨rfl, hx11⟩; rw [F5.out]; obtain ⟨d0, d1, d2, d3, c4⟩ := pc5 hx11.p1; dsimp only at d0 d1 d2 d3 c4; have f4 := frozen_blk hx11.p1.at 4; have HX11 := Lib.hid hx11; clear hx11)
    | (go_at_call 11; go_loud (have hx12 : Sat E (w11.setCell ⟨h, 4, none⟩ (.string X)) (pt h (.cells p.arr 23) :: isRd b (left s 128) 0 :: pt q (.cells noPc.arr 23) :: L) := (by rw [HPE.out]; exact HX11.out.p1.setCell 4 (.string X)); have hput := pcPut_ok hx12 p HPD.out HPQ.out; rw [HPA.out] at hput; refine hput.mono ?_; clear hput hx12 d0 d1 d2 d3 c4 f4; rintro e13 w13 ⟨rfl, hx13⟩; rw [HPUT.out, HCHK.out]; obtain ⟨d0, d1, d2, d3, d4⟩ := pc5 (p := ⟨e, sq, t, n, X⟩) hx13; dsimp only at d0 d1 d2 d3 d4; have HX13 := Lib.hid hx13; clear hx13))
    | (with_reducible refine wpList_store_pc HX13.out.p2 ⟨e, sq, t, n, X⟩ ?_ ?_; exact ⟨rfl, _, _, rfl, rfl, rfl⟩; intro w9 hx9; have HX9 := Lib.hid hx9; clear hx9))
  have HX9 : Hid (Sat E w9 (pt q (.cells p.arr 23) :: _)) := Lib.hid (by rw [HPE.out]; exact HX9.out)
  refine bodyPost_ret (v := .tuple #[.agg p.arr, .int .i64 0]) ?_ rfl ⟨rfl, HX9.out.tail.tail.tail⟩
  rw [results_cell_tmp rfl]
  simp [asAddr, load_pc HX9.out, Result.andThen]

set_option maxRecDepth 100000 in
set_option maxHeartbeats 3200000 in
theorem pcGet_top {E W : World} {L : List HP} (x : Sat E W L) (s : ByteArray) (hz : s.size = 128) (hg : ¬ fld s 4 8 ≤ 9223372036854775807) : Calls Tryz.prog 14 #[.string s] W fun e w' => e = .returned (.tuple #[.agg noPc.arr, .int .i64 14]) ∧ Sat E w' L := by
  have hx1 := zp x
  obtain ⟨q, hq⟩ : ∃ q, W.heap.size = q := ⟨_, rfl⟩
  rw [hq] at hx1
  obtain ⟨e, he⟩ : ∃ e, fld s 0 4 = e := ⟨_, rfl⟩
  have F0 := Lib.hid he
  have HX1 := Lib.hid hx1
  clear he hx1 x
  go_enter Tryz.func14, Tryz.ntmps14
  go_wp2_with (first
    | (go_at_call 47; refine (rRead_ok HX1.out s).mono ?_; rintro e1 w1 ⟨b, rfl, hx1⟩; have hx2 : Sat E w1 (isRd b (left s 0) 0 :: pt q (.cells noPc.arr 23) :: L) := by rw [left_all]; exact hx1
       have HX2 := Lib.hid hx2; clear hx1 hx2)
    | (go_at_call 48; refine (rU32_at (p := 0) HX2.out (by omega) (by omega)).mono ?_; rintro e3 w3 ⟨rfl, hx3⟩; rw [F0.out]; have HX3 := Lib.hid hx3; clear hx3)
    | (go_at_call 49; refine (rU64_top (p := 4) HX3.out (by omega) (by omega) hg).mono ?_; rintro e4 w4 ⟨rfl, hx4⟩; have HX4 := Lib.hid hx4; clear hx4)
    | (go_at_call 48; refine (rU32_bad (by omega) HX4.out (by simp)).mono ?_; rintro e5 w5 ⟨rfl, hx5⟩; have HX5 := Lib.hid hx5; clear hx5)
    | (go_at_call 48; refine (rU32_bad (by omega) HX5.out (by simp)).mono ?_; rintro e6 w6 ⟨rfl, hx6⟩; obtain ⟨h, hh⟩ : ∃ h, w6.heap.size = h := ⟨_, rfl⟩; have hx6 := zp hx6; rw [hh] at hx6; have HX6 := Lib.hid hx6; clear hx6)
    | (with_reducible refine wpList_store_pc HX6.out ⟨e, 0, 0, 0, ByteArray.empty⟩ ?_ ?_; exact ⟨rfl, _, _, rfl, rfl, rfl⟩; intro w7 hx7; have HX7 := Lib.hid hx7; clear hx7)
    | (go_at_call 48; refine (rU32_bad (by omega) HX7.out.p1 (by simp)).mono ?_; rintro e8 w8 ⟨rfl, hx8⟩; have HX8 := Lib.hid hx8; clear hx8)
    | (go_at_call 50; refine (rFixed_bad (by omega) HX8.out _).mono ?_; rintro e10 w10 ⟨rfl, rfl⟩)
    | (go_at_call 51; refine (rErr_ok HX8.out).mono ?_; rintro e11 w11 ⟨rfl, rfl⟩)
    | (with_reducible refine wpList_store_pc HX8.out.p2 noPc ?_ ?_; exact ⟨rfl, _, _, rfl, rfl, rfl⟩; intro w9 hx9; have HX9 := Lib.hid hx9; clear hx9))
  refine bodyPost_ret (v := .tuple #[.agg noPc.arr, .int .i64 14]) ?_ rfl ⟨rfl, HX9.out.tail.tail.tail⟩
  rw [results_cell_tmp rfl]
  simp [asAddr, load_pc HX9.out, Result.andThen]

theorem pcGet_ok {E W : World} {L : List HP} (x : Sat E W L) (s : ByteArray) (hs : s.size ≤ 9223372036854775807) : Calls Tryz.prog 14 #[.string s] W fun e w' => e = .returned (.tuple #[.agg (getPcV s).arr, .int .i64 (getPcE s)]) ∧ Sat E w' L := by
  by_cases hz : s.size = 128
  · by_cases hg : fld s 4 8 ≤ 9223372036854775807
    · by_cases hl : fld s 20 4 ≤ 100
      · by_cases hsum : sumOf (s.extract 0 124) = fld s 124 4
        · cases hok : okPc (pcOfB s) with
          | false =>
            obtain ⟨e1, e2, _⟩ := getPc_no (getPc_none (s := s) fun h => by rw [hok] at h; exact absurd h.2.2.2.1 (by simp))
            rw [e1, e2]; exact pcGet_bad x s hz hg hl hsum hok
          | true =>
            by_cases hd : pcB (pcOfB s) = s
            · obtain ⟨e1, e2, _⟩ := getPc_yes (s := s) (p := pcOfB s) (by unfold getPc; rw [if_pos ⟨hz, hg, hl, hok, hd⟩])
              rw [e1, e2]; exact pcGet_yes x s hz hg hl hsum hok hd
            · obtain ⟨e1, e2, _⟩ := getPc_no (getPc_none (s := s) fun h => hd h.2.2.2.2)
              rw [e1, e2]; exact pcGet_diff x s hz hg hl hsum hok hd
        · obtain ⟨e1, e2, _⟩ := getPc_no (getPc_sum hz hsum)
          rw [e1, e2]; exact pcGet_sum x s hz hg hl hsum
      · obtain ⟨e1, e2, _⟩ := getPc_no (getPc_none (s := s) fun h => hl h.2.2.1)
        rw [e1, e2]; exact pcGet_len x s hz hg hl
    · obtain ⟨e1, e2, _⟩ := getPc_no (getPc_none (s := s) fun h => hg h.2.1)
      rw [e1, e2]; exact pcGet_top x s hz hg
  · obtain ⟨e1, e2, _⟩ := getPc_no (getPc_none (s := s) fun h => hz h.1)
    rw [e1, e2]; exact pcGet_size x s hs hz
end Go.Proofs.YtmkpglabiikdeaaGreatDoor
