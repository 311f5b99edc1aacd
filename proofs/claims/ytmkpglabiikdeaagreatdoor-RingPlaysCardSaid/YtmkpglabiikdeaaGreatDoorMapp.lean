/-
  The document's Get of a piece, walked.
-/
import Derived.Test.YtmkpglabiikdeaaGreatDoorPcG
import Derived.Test.YtmkpglabiikdeaaGreatDoorRingD
import Derived.Test.YtmkpglabiikdeaaGreatDoorRefC
import Derived.Test.YtmkpglabiikdeaaGreatDoorJoin2
import Derived.Test.YtmkpglabiikdeaaGreatDoorFindW
import Derived.Test.YtmkpglabiikdeaaGreatDoorLaw11
import Derived.Test.YtmkpglabiikdeaaGreatDoorCutS
import Derived.Test.YtmkpglabiikdeaaGreatDoorRefW
namespace Go.Proofs.YtmkpglabiikdeaaGreatDoor
open Go.RowKit PH
theorem refU4_to {E W : World} {L : List HP} {b p q : Nat} {S : ByteArray} (hq : p + 4 = q) (x : Sat E W (isRf b S p 0 :: L)) (h : p + 4 ≤ S.size) (hs : S.size ≤ 9223372036854775000) :
    Calls Tryz.prog 54 #[.pointer (some ⟨b, 0, none⟩), .int .i64 4] W fun e w' => e = .returned (.int .i64 (fld S p 4)) ∧ Sat E w' (isRf b S q 0 :: L) := by
  subst hq; exact refU4_at x h hs
theorem refU8_to {E W : World} {L : List HP} {b p q : Nat} {S : ByteArray} (hq : p + 8 = q) (x : Sat E W (isRf b S p 0 :: L)) (h : p + 8 ≤ S.size) (hs : S.size ≤ 9223372036854775000) (hn : fld S p 8 ≤ 9223372036854775807) :
    Calls Tryz.prog 54 #[.pointer (some ⟨b, 0, none⟩), .int .i64 8] W fun e w' => e = .returned (.int .i64 (fld S p 8)) ∧ Sat E w' (isRf b S q 0 :: L) := by
  subst hq; exact refU8_at x h hs hn
theorem zq {E w : World} {L : List HP} (x : Sat E w L) : Sat E (w.alloc (.cells #[.int .i64 0, .int .i64 0, .int .i64 0, .int .i64 0, .string ⟨#[]⟩] 23)) (pt w.heap.size (.cells noPc.arr 23) :: L) := x.alloc _
attribute [local irreducible] fld pcB pcOfB left
set_option maxRecDepth 100000 in
set_option maxHeartbeats 600000 in
theorem rpcGet_size {E W : World} {L : List HP} (x : Sat E W L) (s : ByteArray) (_hs : s.size ≤ 9223372036854775807) (hz : s.size ≠ 128) : Calls Tryz.prog 16 #[.string s] W fun e w' => e = .returned (.tuple #[.agg noPc.arr, .bool false]) ∧ Sat E w' L := by
  have hx1 := zp x
  obtain ⟨q, hq⟩ : ∃ q, W.heap.size = q := ⟨_, rfl⟩
  rw [hq] at hx1
  have HX1 := Lib.hid hx1
  clear hx1 x
  have hb : ((s.size : Int) != 128) = true := by simp; omega
  go_enter Tryz.func16, Tryz.ntmps16
  go_wp2_with ((with_reducible refine wpList_store_pc HX1.out noPc ?_ ?_; exact ⟨rfl, _, _, rfl, rfl, rfl⟩; intro w9 hx9; have HX9 := Lib.hid hx9; clear hx9))
  refine bodyPost_ret (v := .tuple #[.agg noPc.arr, .bool false]) ?_ rfl ⟨rfl, HX9.out.tail⟩
  rw [results_cell_tmp rfl]
  simp [asAddr, load_pc HX9.out, Result.andThen]

set_option maxRecDepth 100000 in
set_option maxHeartbeats 600000 in
theorem rpcGet_len {E W : World} {L : List HP} (x : Sat E W L) (s : ByteArray) (hz : s.size = 128) (hg : fld s 4 8 ≤ 9223372036854775807) (hlen : ¬ fld s 20 4 ≤ 100) : Calls Tryz.prog 16 #[.string s] W fun e w' => e = .returned (.tuple #[.agg noPc.arr, .bool false]) ∧ Sat E w' L := by
  have hx1 := zp x
  obtain ⟨q, hq⟩ : ∃ q, W.heap.size = q := ⟨_, rfl⟩
  rw [hq] at hx1
  obtain ⟨e, he⟩ : ∃ e, fld s 0 4 = e := ⟨_, rfl⟩
  obtain ⟨sq, hsq⟩ : ∃ e, fld s 4 8 = e := ⟨_, rfl⟩
  obtain ⟨t, ht⟩ : ∃ e, fld s 12 4 = e := ⟨_, rfl⟩
  obtain ⟨n, hn⟩ : ∃ e, fld s 16 4 = e := ⟨_, rfl⟩
  obtain ⟨m, hm⟩ : ∃ e, fld s 20 4 = e := ⟨_, rfl⟩
  obtain ⟨X, hX⟩ : ∃ X, s.extract 24 (24 + m) = X := ⟨_, rfl⟩
  obtain ⟨p, hp⟩ : ∃ p, pcOfB s = p := ⟨_, rfl⟩
  have hpe : p = ⟨e, sq, t, n, X⟩ := by rw [← hp]; unfold pcOfB; rw [he, hsq, ht, hn, hm, hX]
  have he0 : e < 4294967296 := by rw [← he]; exact fld_lt s 0 4
  have ht0 : t < 4294967296 := by rw [← ht]; exact fld_lt s 12 4
  have hn0 : n < 4294967296 := by rw [← hn]; exact fld_lt s 16 4
  have hm0 : m < 4294967296 := by rw [← hm]; exact fld_lt s 20 4
  obtain ⟨b, hb⟩ : ∃ b, q + 1 = b := ⟨_, rfl⟩
  obtain ⟨h, hh⟩ : ∃ b', b + 1 = b' := ⟨_, rfl⟩
  have hx1 := zq x
  rw [hq] at hx1
  have hx3 := zq (hx1.alloc (.cells #[.string s, .int .i64 0, .int .i64 0] 88))
  rw [World.size_alloc, World.size_alloc, hq, hb, hh] at hx3
  have HX3 : Hid (Sat E _ (pt h (.cells (⟨0, 0, 0, 0, ByteArray.empty⟩ : Pc).arr 23) :: isRf b s 0 0 :: pt q (.cells noPc.arr 23) :: L)) := Lib.hid hx3
  clear hx3
  rw [hsq] at hg
  rw [hm] at hlen
  have hlt : (100 : Int) < (m : Int) := by omega
  have F0 := Lib.hid he
  have F1 := Lib.hid hsq
  have F2 := Lib.hid ht
  have F3 := Lib.hid hn
  have F4 := Lib.hid hm
  have HXX := Lib.hid hX
  have HPP := Lib.hid hp
  have HPE := Lib.hid hpe
  have HX1 := Lib.hid hx1
  clear he hsq ht hn hm hX hp hpe hx1 x
  go_enter Tryz.func16, Tryz.ntmps16
  go_wp2_with (first
    | (go_at_call 54; with_reducible refine (refU4_to (p := 0) (q := 4) (by omega) HX3.out.p1 (by omega) (by omega)).mono ?_; rintro e4 w4 ⟨rfl, hx4⟩; rw [F0.out]; have c4 := (pc5 (p := ⟨0, 0, 0, 0, ByteArray.empty⟩) hx4.p1).1; dsimp only at c4; have z4 := frozen_blk hx4.p1.at 0; have hx4 : Sat E _ (pt h (.cells (⟨e, 0, 0, 0, ByteArray.empty⟩ : Pc).arr 23) :: isRf b s 4 0 :: pt q (.cells noPc.arr 23) :: L) := hx4.p1.setCell 0 (.int .i64 e); have HX4 := Lib.hid hx4; clear hx4)
    | (go_at_call 54; with_reducible refine (refU8_to (p := 4) (q := 12) (by omega) HX4.out.p1 (by omega) (by omega) (by rw [F1.out]; omega)).mono ?_; rintro e5 w5 ⟨rfl, hx5⟩; rw [F1.out]; have c5 := (pc5 (p := ⟨e, 0, 0, 0, ByteArray.empty⟩) hx5.p1).2.1; dsimp only at c5; have z5 := frozen_blk hx5.p1.at 1; have hx5 : Sat E _ (pt h (.cells (⟨e, sq, 0, 0, ByteArray.empty⟩ : Pc).arr 23) :: isRf b s 12 0 :: pt q (.cells noPc.arr 23) :: L) := hx5.p1.setCell 1 (.int .i64 sq); have HX5 := Lib.hid hx5; clear hx5)
    | (go_at_call 54; with_reducible refine (refU4_to (p := 12) (q := 16) (by omega) HX5.out.p1 (by omega) (by omega)).mono ?_; rintro e6 w6 ⟨rfl, hx6⟩; rw [F2.out]; have c6 := (pc5 (p := ⟨e, sq, 0, 0, ByteArray.empty⟩) hx6.p1).2.2.1; dsimp only at c6; have z6 := frozen_blk hx6.p1.at 2; have hx6 : Sat E _ (pt h (.cells (⟨e, sq, t, 0, ByteArray.empty⟩ : Pc).arr 23) :: isRf b s 16 0 :: pt q (.cells noPc.arr 23) :: L) := hx6.p1.setCell 2 (.int .i64 t); have HX6 := Lib.hid hx6; clear hx6)
    | (go_at_call 54; with_reducible refine (refU4_to (p := 16) (q := 20) (by omega) HX6.out.p1 (by omega) (by omega)).mono ?_; rintro e7 w7 ⟨rfl, hx7⟩; rw [F3.out]; have c7 := (pc5 (p := ⟨e, sq, t, 0, ByteArray.empty⟩) hx7.p1).2.2.2.1; dsimp only at c7; have z7 := frozen_blk hx7.p1.at 3; have hx7 : Sat E _ (pt h (.cells (⟨e, sq, t, n, ByteArray.empty⟩ : Pc).arr 23) :: isRf b s 20 0 :: pt q (.cells noPc.arr 23) :: L) := hx7.p1.setCell 3 (.int .i64 n); have HX7 := Lib.hid hx7; clear hx7)
    | (go_at_call 54; with_reducible refine (refU4_to (p := 20) (q := 24) (by omega) HX7.out.p1 (by omega) (by omega)).mono ?_; rintro e8 w8 ⟨rfl, hx8⟩; rw [F4.out]; have k2 : w8.cell? ⟨b, 2, none⟩ = some (.int .i64 0) := cell_blk hx8.at 2; obtain ⟨d0, d1, d2, d3, d4⟩ := pc5 (p := ⟨e, sq, t, n, ByteArray.empty⟩) hx8.p1; dsimp only at d0 d1 d2 d3 d4; have f4 := frozen_blk hx8.p1.at 4; have HX8 := Lib.hid hx8; clear hx8)
    | (with_reducible refine wpList_store_pc HX8.out.p2 noPc ?_ ?_; exact ⟨rfl, _, _, rfl, rfl, rfl⟩; intro w9 hx9; have HX9 := Lib.hid hx9; clear hx9))
  refine bodyPost_ret (v := .tuple #[.agg noPc.arr, .bool false]) ?_ rfl ⟨rfl, HX9.out.tail.tail.tail⟩
  rw [results_cell_tmp rfl]
  simp [asAddr, load_pc HX9.out, Result.andThen]

set_option maxRecDepth 100000 in
set_option maxHeartbeats 600000 in
theorem rpcGet_bad {E W : World} {L : List HP} (x : Sat E W L) (s : ByteArray) (hz : s.size = 128) (hg : fld s 4 8 ≤ 9223372036854775807) (hlen : fld s 20 4 ≤ 100) (hok : okPc (pcOfB s) = false) : Calls Tryz.prog 16 #[.string s] W fun e w' => e = .returned (.tuple #[.agg noPc.arr, .bool false]) ∧ Sat E w' L := by
  have hx1 := zp x
  obtain ⟨q, hq⟩ : ∃ q, W.heap.size = q := ⟨_, rfl⟩
  rw [hq] at hx1
  obtain ⟨e, he⟩ : ∃ e, fld s 0 4 = e := ⟨_, rfl⟩
  obtain ⟨sq, hsq⟩ : ∃ e, fld s 4 8 = e := ⟨_, rfl⟩
  obtain ⟨t, ht⟩ : ∃ e, fld s 12 4 = e := ⟨_, rfl⟩
  obtain ⟨n, hn⟩ : ∃ e, fld s 16 4 = e := ⟨_, rfl⟩
  obtain ⟨m, hm⟩ : ∃ e, fld s 20 4 = e := ⟨_, rfl⟩
  obtain ⟨X, hX⟩ : ∃ X, s.extract 24 (24 + m) = X := ⟨_, rfl⟩
  obtain ⟨p, hp⟩ : ∃ p, pcOfB s = p := ⟨_, rfl⟩
  have hpe : p = ⟨e, sq, t, n, X⟩ := by rw [← hp]; unfold pcOfB; rw [he, hsq, ht, hn, hm, hX]
  have he0 : e < 4294967296 := by rw [← he]; exact fld_lt s 0 4
  have ht0 : t < 4294967296 := by rw [← ht]; exact fld_lt s 12 4
  have hn0 : n < 4294967296 := by rw [← hn]; exact fld_lt s 16 4
  have hm0 : m < 4294967296 := by rw [← hm]; exact fld_lt s 20 4
  obtain ⟨b, hb⟩ : ∃ b, q + 1 = b := ⟨_, rfl⟩
  obtain ⟨h, hh⟩ : ∃ b', b + 1 = b' := ⟨_, rfl⟩
  have hx1 := zq x
  rw [hq] at hx1
  have hx3 := zq (hx1.alloc (.cells #[.string s, .int .i64 0, .int .i64 0] 88))
  rw [World.size_alloc, World.size_alloc, hq, hb, hh] at hx3
  have HX3 : Hid (Sat E _ (pt h (.cells (⟨0, 0, 0, 0, ByteArray.empty⟩ : Pc).arr 23) :: isRf b s 0 0 :: pt q (.cells noPc.arr 23) :: L)) := Lib.hid hx3
  clear hx3
  have hnp := pcOfB_nat hg hlen
  rw [he, hsq, ht, hn, hp] at hnp
  rw [hsq] at hg
  rw [hm] at hlen
  have hXs : X.size ≤ 9223372036854775807 := by rw [← hX, ByteArray.size_extract]; omega
  have hpd : p.data.size ≤ 9223372036854775807 := by rw [hpe]; exact hXs
  have hpa : p.arr = #[.int .i64 e, .int .i64 sq, .int .i64 t, .int .i64 n, .string X] := by rw [hpe]; rfl
  have hX2 : s.extract 24 (24 + m) = X := hX
  have hti : ((24 : Int) + (m : Int)).toNat = 24 + m := by omega
  rw [hp] at hok
  have HPD := Lib.hid hpd
  have HPA := Lib.hid hpa
  have HOK := Lib.hid hok
  have HNP := Lib.hid hnp
  clear hpd hpa hok hnp
  have F0 := Lib.hid he
  have F1 := Lib.hid hsq
  have F2 := Lib.hid ht
  have F3 := Lib.hid hn
  have F4 := Lib.hid hm
  have HXX := Lib.hid hX
  have HPP := Lib.hid hp
  have HPE := Lib.hid hpe
  have HX1 := Lib.hid hx1
  clear he hsq ht hn hm hX hp hpe hx1 x
  go_enter Tryz.func16, Tryz.ntmps16
  go_wp2_with (first
    | (go_at_call 54; with_reducible refine (refU4_to (p := 0) (q := 4) (by omega) HX3.out.p1 (by omega) (by omega)).mono ?_; rintro e4 w4 ⟨rfl, hx4⟩; rw [F0.out]; have c4 := (pc5 (p := ⟨0, 0, 0, 0, ByteArray.empty⟩) hx4.p1).1; dsimp only at c4; have z4 := frozen_blk hx4.p1.at 0; have hx4 : Sat E _ (pt h (.cells (⟨e, 0, 0, 0, ByteArray.empty⟩ : Pc).arr 23) :: isRf b s 4 0 :: pt q (.cells noPc.arr 23) :: L) := hx4.p1.setCell 0 (.int .i64 e); have HX4 := Lib.hid hx4; clear hx4)
    | (go_at_call 54; with_reducible refine (refU8_to (p := 4) (q := 12) (by omega) HX4.out.p1 (by omega) (by omega) (by rw [F1.out]; omega)).mono ?_; rintro e5 w5 ⟨rfl, hx5⟩; rw [F1.out]; have c5 := (pc5 (p := ⟨e, 0, 0, 0, ByteArray.empty⟩) hx5.p1).2.1; dsimp only at c5; have z5 := frozen_blk hx5.p1.at 1; have hx5 : Sat E _ (pt h (.cells (⟨e, sq, 0, 0, ByteArray.empty⟩ : Pc).arr 23) :: isRf b s 12 0 :: pt q (.cells noPc.arr 23) :: L) := hx5.p1.setCell 1 (.int .i64 sq); have HX5 := Lib.hid hx5; clear hx5)
    | (go_at_call 54; with_reducible refine (refU4_to (p := 12) (q := 16) (by omega) HX5.out.p1 (by omega) (by omega)).mono ?_; rintro e6 w6 ⟨rfl, hx6⟩; rw [F2.out]; have c6 := (pc5 (p := ⟨e, sq, 0, 0, ByteArray.empty⟩) hx6.p1).2.2.1; dsimp only at c6; have z6 := frozen_blk hx6.p1.at 2; have hx6 : Sat E _ (pt h (.cells (⟨e, sq, t, 0, ByteArray.empty⟩ : Pc).arr 23) :: isRf b s 16 0 :: pt q (.cells noPc.arr 23) :: L) := hx6.p1.setCell 2 (.int .i64 t); have HX6 := Lib.hid hx6; clear hx6)
    | (go_at_call 54; with_reducible refine (refU4_to (p := 16) (q := 20) (by omega) HX6.out.p1 (by omega) (by omega)).mono ?_; rintro e7 w7 ⟨rfl, hx7⟩; rw [F3.out]; have c7 := (pc5 (p := ⟨e, sq, t, 0, ByteArray.empty⟩) hx7.p1).2.2.2.1; dsimp only at c7; have z7 := frozen_blk hx7.p1.at 3; have hx7 : Sat E _ (pt h (.cells (⟨e, sq, t, n, ByteArray.empty⟩ : Pc).arr 23) :: isRf b s 20 0 :: pt q (.cells noPc.arr 23) :: L) := hx7.p1.setCell 3 (.int .i64 n); have HX7 := Lib.hid hx7; clear hx7)
    | (go_at_call 54; with_reducible refine (refU4_to (p := 20) (q := 24) (by omega) HX7.out.p1 (by omega) (by omega)).mono ?_; rintro e8 w8 ⟨rfl, hx8⟩; rw [F4.out]; have k2 : w8.cell? ⟨b, 2, none⟩ = some (.int .i64 0) := cell_blk hx8.at 2; obtain ⟨d0, d1, d2, d3, d4⟩ := pc5 (p := ⟨e, sq, t, n, ByteArray.empty⟩) hx8.p1; dsimp only at d0 d1 d2 d3 d4; have f4 := frozen_blk hx8.p1.at 4; have HX8 := Lib.hid hx8; clear hx8)
    | (go_at_call 12; go_loud (have hx9 : Sat E (w8.setCell ⟨h, 4, none⟩ (.string X)) (pt h (.cells (⟨e, sq, t, n, X⟩ : Pc).arr 23) :: isRf b s 24 0 :: pt q (.cells noPc.arr 23) :: L) := HX8.out.p1.setCell 4 (.string X); have hck := refCheck_ok p (w8.setCell ⟨h, 4, none⟩ (.string X)) HPD.out; rw [Pc.val_arr, HPA.out] at hck; refine hck.mono ?_; clear hck d0 d1 d2 d3 d4 f4; rintro e9 w9 ⟨rfl, hb9⟩; rw [HOK.out]; have hx9 := hx9.ofBelow hb9; clear hb9; obtain ⟨d0, d1, d2, d3, d4⟩ := pc5 (p := ⟨e, sq, t, n, X⟩) hx9; dsimp only at d0 d1 d2 d3 d4; have HX9 := Lib.hid hx9; clear hx9))
    | (with_reducible refine wpList_store_pc HX9.out.p2 noPc ?_ ?_; exact ⟨rfl, _, _, rfl, rfl, rfl⟩; intro w11 hx11; have HX11 := Lib.hid hx11; clear hx11))
  refine bodyPost_ret (v := .tuple #[.agg noPc.arr, .bool false]) ?_ rfl ⟨rfl, HX11.out.tail.tail.tail⟩
  rw [results_cell_tmp rfl]
  simp [asAddr, load_pc HX11.out, Result.andThen]

set_option maxRecDepth 100000 in
set_option maxHeartbeats 600000 in
theorem rpcGet_diff {E W : World} {L : List HP} (x : Sat E W L) (s : ByteArray) (hz : s.size = 128) (hg : fld s 4 8 ≤ 9223372036854775807) (hlen : fld s 20 4 ≤ 100) (hok : okPc (pcOfB s) = true) (hd : pcB (pcOfB s) ≠ s) : Calls Tryz.prog 16 #[.string s] W fun e w' => e = .returned (.tuple #[.agg noPc.arr, .bool false]) ∧ Sat E w' L := by
  have hx1 := zp x
  obtain ⟨q, hq⟩ : ∃ q, W.heap.size = q := ⟨_, rfl⟩
  rw [hq] at hx1
  obtain ⟨e, he⟩ : ∃ e, fld s 0 4 = e := ⟨_, rfl⟩
  obtain ⟨sq, hsq⟩ : ∃ e, fld s 4 8 = e := ⟨_, rfl⟩
  obtain ⟨t, ht⟩ : ∃ e, fld s 12 4 = e := ⟨_, rfl⟩
  obtain ⟨n, hn⟩ : ∃ e, fld s 16 4 = e := ⟨_, rfl⟩
  obtain ⟨m, hm⟩ : ∃ e, fld s 20 4 = e := ⟨_, rfl⟩
  obtain ⟨X, hX⟩ : ∃ X, s.extract 24 (24 + m) = X := ⟨_, rfl⟩
  obtain ⟨p, hp⟩ : ∃ p, pcOfB s = p := ⟨_, rfl⟩
  have hpe : p = ⟨e, sq, t, n, X⟩ := by rw [← hp]; unfold pcOfB; rw [he, hsq, ht, hn, hm, hX]
  have he0 : e < 4294967296 := by rw [← he]; exact fld_lt s 0 4
  have ht0 : t < 4294967296 := by rw [← ht]; exact fld_lt s 12 4
  have hn0 : n < 4294967296 := by rw [← hn]; exact fld_lt s 16 4
  have hm0 : m < 4294967296 := by rw [← hm]; exact fld_lt s 20 4
  obtain ⟨b, hb⟩ : ∃ b, q + 1 = b := ⟨_, rfl⟩
  obtain ⟨h, hh⟩ : ∃ b', b + 1 = b' := ⟨_, rfl⟩
  have hx1 := zq x
  rw [hq] at hx1
  have hx3 := zq (hx1.alloc (.cells #[.string s, .int .i64 0, .int .i64 0] 88))
  rw [World.size_alloc, World.size_alloc, hq, hb, hh] at hx3
  have HX3 : Hid (Sat E _ (pt h (.cells (⟨0, 0, 0, 0, ByteArray.empty⟩ : Pc).arr 23) :: isRf b s 0 0 :: pt q (.cells noPc.arr 23) :: L)) := Lib.hid hx3
  clear hx3
  have hnp := pcOfB_nat hg hlen
  rw [he, hsq, ht, hn, hp] at hnp
  rw [hsq] at hg
  rw [hm] at hlen
  have hXs : X.size ≤ 9223372036854775807 := by rw [← hX, ByteArray.size_extract]; omega
  have hpd : p.data.size ≤ 9223372036854775807 := by rw [hpe]; exact hXs
  have hpa : p.arr = #[.int .i64 e, .int .i64 sq, .int .i64 t, .int .i64 n, .string X] := by rw [hpe]; rfl
  have hX2 : s.extract 24 (24 + m) = X := hX
  have hti : ((24 : Int) + (m : Int)).toNat = 24 + m := by omega
  rw [hp] at hok
  have HPD := Lib.hid hpd
  have HPA := Lib.hid hpa
  have HOK := Lib.hid hok
  have HNP := Lib.hid hnp
  clear hpd hpa hok hnp
  rw [hp] at hd
  obtain ⟨T, hT⟩ : ∃ T, pcB p = T := ⟨_, rfl⟩
  rw [hT] at hd
  have hne := toList_ne hd
  have HBT := Lib.hid hT
  clear hT hd
  have F0 := Lib.hid he
  have F1 := Lib.hid hsq
  have F2 := Lib.hid ht
  have F3 := Lib.hid hn
  have F4 := Lib.hid hm
  have HXX := Lib.hid hX
  have HPP := Lib.hid hp
  have HPE := Lib.hid hpe
  have HX1 := Lib.hid hx1
  clear he hsq ht hn hm hX hp hpe hx1 x
  go_enter Tryz.func16, Tryz.ntmps16
  go_wp2_with (first
    | (go_at_call 54; with_reducible refine (refU4_to (p := 0) (q := 4) (by omega) HX3.out.p1 (by omega) (by omega)).mono ?_; rintro e4 w4 ⟨rfl, hx4⟩; rw [F0.out]; have c4 := (pc5 (p := ⟨0, 0, 0, 0, ByteArray.empty⟩) hx4.p1).1; dsimp only at c4; have z4 := frozen_blk hx4.p1.at 0; have hx4 : Sat E _ (pt h (.cells (⟨e, 0, 0, 0, ByteArray.empty⟩ : Pc).arr 23) :: isRf b s 4 0 :: pt q (.cells noPc.arr 23) :: L) := hx4.p1.setCell 0 (.int .i64 e); have HX4 := Lib.hid hx4; clear hx4)
    | (go_at_call 54; with_reducible refine (refU8_to (p := 4) (q := 12) (by omega) HX4.out.p1 (by omega) (by omega) (by rw [F1.out]; omega)).mono ?_; rintro e5 w5 ⟨rfl, hx5⟩; rw [F1.out]; have c5 := (pc5 (p := ⟨e, 0, 0, 0, ByteArray.empty⟩) hx5.p1).2.1; dsimp only at c5; have z5 := frozen_blk hx5.p1.at 1; have hx5 : Sat E _ (pt h (.cells (⟨e, sq, 0, 0, ByteArray.empty⟩ : Pc).arr 23) :: isRf b s 12 0 :: pt q (.cells noPc.arr 23) :: L) := hx5.p1.setCell 1 (.int .i64 sq); have HX5 := Lib.hid hx5; clear hx5)
    | (go_at_call 54; with_reducible refine (refU4_to (p := 12) (q := 16) (by omega) HX5.out.p1 (by omega) (by omega)).mono ?_; rintro e6 w6 ⟨rfl, hx6⟩; rw [F2.out]; have c6 := (pc5 (p := ⟨e, sq, 0, 0, ByteArray.empty⟩) hx6.p1).2.2.1; dsimp only at c6; have z6 := frozen_blk hx6.p1.at 2; have hx6 : Sat E _ (pt h (.cells (⟨e, sq, t, 0, ByteArray.empty⟩ : Pc).arr 23) :: isRf b s 16 0 :: pt q (.cells noPc.arr 23) :: L) := hx6.p1.setCell 2 (.int .i64 t); have HX6 := Lib.hid hx6; clear hx6)
    | (go_at_call 54; with_reducible refine (refU4_to (p := 16) (q := 20) (by omega) HX6.out.p1 (by omega) (by omega)).mono ?_; rintro e7 w7 ⟨rfl, hx7⟩; rw [F3.out]; have c7 := (pc5 (p := ⟨e, sq, t, 0, ByteArray.empty⟩) hx7.p1).2.2.2.1; dsimp only at c7; have z7 := frozen_blk hx7.p1.at 3; have hx7 : Sat E _ (pt h (.cells (⟨e, sq, t, n, ByteArray.empty⟩ : Pc).arr 23) :: isRf b s 20 0 :: pt q (.cells noPc.arr 23) :: L) := hx7.p1.setCell 3 (.int .i64 n); have HX7 := Lib.hid hx7; clear hx7)
    | (go_at_call 54; with_reducible refine (refU4_to (p := 20) (q := 24) (by omega) HX7.out.p1 (by omega) (by omega)).mono ?_; rintro e8 w8 ⟨rfl, hx8⟩; rw [F4.out]; have k2 : w8.cell? ⟨b, 2, none⟩ = some (.int .i64 0) := cell_blk hx8.at 2; obtain ⟨d0, d1, d2, d3, d4⟩ := pc5 (p := ⟨e, sq, t, n, ByteArray.empty⟩) hx8.p1; dsimp only at d0 d1 d2 d3 d4; have f4 := frozen_blk hx8.p1.at 4; have HX8 := Lib.hid hx8; clear hx8)
    | (go_at_call 12; go_loud (have hx9 : Sat E (w8.setCell ⟨h, 4, none⟩ (.string X)) (pt h (.cells (⟨e, sq, t, n, X⟩ : Pc).arr 23) :: isRf b s 24 0 :: pt q (.cells noPc.arr 23) :: L) := HX8.out.p1.setCell 4 (.string X); have hck := refCheck_ok p (w8.setCell ⟨h, 4, none⟩ (.string X)) HPD.out; rw [Pc.val_arr, HPA.out] at hck; refine hck.mono ?_; clear hck d0 d1 d2 d3 d4 f4; rintro e9 w9 ⟨rfl, hb9⟩; rw [HOK.out]; have hx9 := hx9.ofBelow hb9; clear hb9; obtain ⟨d0, d1, d2, d3, d4⟩ := pc5 (p := ⟨e, sq, t, n, X⟩) hx9; dsimp only at d0 d1 d2 d3 d4; have HX9 := Lib.hid hx9; clear hx9))
    | (go_at_call 15; go_loud (have hby := refPc_ok HX9.out p HNP.out; rw [HPA.out] at hby; refine hby.mono ?_; clear hby d0 d1 d2 d3 d4; rintro e10 w10 ⟨rfl, hx10⟩; rw [HBT.out]; obtain ⟨d0, d1, d2, d3, d4⟩ := pc5 (p := ⟨e, sq, t, n, X⟩) hx10; dsimp only at d0 d1 d2 d3 d4; have HX10 := Lib.hid hx10; clear hx10))
    | (with_reducible refine wpList_store_pc HX10.out.p2 noPc ?_ ?_; exact ⟨rfl, _, _, rfl, rfl, rfl⟩; intro w11 hx11; have HX11 := Lib.hid hx11; clear hx11))
  refine bodyPost_ret (v := .tuple #[.agg noPc.arr, .bool false]) ?_ rfl ⟨rfl, HX11.out.tail.tail.tail⟩
  rw [results_cell_tmp rfl]
  simp [asAddr, load_pc HX11.out, Result.andThen]

set_option maxRecDepth 100000 in
set_option maxHeartbeats 600000 in
theorem rpcGet_yes {E W : World} {L : List HP} (x : Sat E W L) (s : ByteArray) (hz : s.size = 128) (hg : fld s 4 8 ≤ 9223372036854775807) (hlen : fld s 20 4 ≤ 100) (hok : okPc (pcOfB s) = true) (hd : pcB (pcOfB s) = s) : Calls Tryz.prog 16 #[.string s] W fun e w' => e = .returned (.tuple #[.agg (pcOfB s).arr, .bool true]) ∧ Sat E w' L := by
  have hx1 := zp x
  obtain ⟨q, hq⟩ : ∃ q, W.heap.size = q := ⟨_, rfl⟩
  rw [hq] at hx1
  obtain ⟨e, he⟩ : ∃ e, fld s 0 4 = e := ⟨_, rfl⟩
  obtain ⟨sq, hsq⟩ : ∃ e, fld s 4 8 = e := ⟨_, rfl⟩
  obtain ⟨t, ht⟩ : ∃ e, fld s 12 4 = e := ⟨_, rfl⟩
  obtain ⟨n, hn⟩ : ∃ e, fld s 16 4 = e := ⟨_, rfl⟩
  obtain ⟨m, hm⟩ : ∃ e, fld s 20 4 = e := ⟨_, rfl⟩
  obtain ⟨X, hX⟩ : ∃ X, s.extract 24 (24 + m) = X := ⟨_, rfl⟩
  obtain ⟨p, hp⟩ : ∃ p, pcOfB s = p := ⟨_, rfl⟩
  have hpe : p = ⟨e, sq, t, n, X⟩ := by rw [← hp]; unfold pcOfB; rw [he, hsq, ht, hn, hm, hX]
  have he0 : e < 4294967296 := by rw [← he]; exact fld_lt s 0 4
  have ht0 : t < 4294967296 := by rw [← ht]; exact fld_lt s 12 4
  have hn0 : n < 4294967296 := by rw [← hn]; exact fld_lt s 16 4
  have hm0 : m < 4294967296 := by rw [← hm]; exact fld_lt s 20 4
  obtain ⟨b, hb⟩ : ∃ b, q + 1 = b := ⟨_, rfl⟩
  obtain ⟨h, hh⟩ : ∃ b', b + 1 = b' := ⟨_, rfl⟩
  have hx1 := zq x
  rw [hq] at hx1
  have hx3 := zq (hx1.alloc (.cells #[.string s, .int .i64 0, .int .i64 0] 88))
  rw [World.size_alloc, World.size_alloc, hq, hb, hh] at hx3
  have HX3 : Hid (Sat E _ (pt h (.cells (⟨0, 0, 0, 0, ByteArray.empty⟩ : Pc).arr 23) :: isRf b s 0 0 :: pt q (.cells noPc.arr 23) :: L)) := Lib.hid hx3
  clear hx3
  have hnp := pcOfB_nat hg hlen
  rw [he, hsq, ht, hn, hp] at hnp
  rw [hsq] at hg
  rw [hm] at hlen
  have hXs : X.size ≤ 9223372036854775807 := by rw [← hX, ByteArray.size_extract]; omega
  have hpd : p.data.size ≤ 9223372036854775807 := by rw [hpe]; exact hXs
  have hpa : p.arr = #[.int .i64 e, .int .i64 sq, .int .i64 t, .int .i64 n, .string X] := by rw [hpe]; rfl
  have hX2 : s.extract 24 (24 + m) = X := hX
  have hti : ((24 : Int) + (m : Int)).toNat = 24 + m := by omega
  rw [hp] at hok
  have HPD := Lib.hid hpd
  have HPA := Lib.hid hpa
  have HOK := Lib.hid hok
  have HNP := Lib.hid hnp
  clear hpd hpa hok hnp
  rw [hp] at hd
  have HBT := Lib.hid hd
  clear hd
  have F0 := Lib.hid he
  have F1 := Lib.hid hsq
  have F2 := Lib.hid ht
  have F3 := Lib.hid hn
  have F4 := Lib.hid hm
  have HXX := Lib.hid hX
  have HPP := Lib.hid hp
  have HPE := Lib.hid hpe
  have HX1 := Lib.hid hx1
  rw [HPP.out]
  clear he hsq ht hn hm hX hp hpe hx1 x
  go_enter Tryz.func16, Tryz.ntmps16
  go_wp2_with (first
    | (go_at_call 54; with_reducible refine (refU4_to (p := 0) (q := 4) (by omega) HX3.out.p1 (by omega) (by omega)).mono ?_; rintro e4 w4 ⟨rfl, hx4⟩; rw [F0.out]; have c4 := (pc5 (p := ⟨0, 0, 0, 0, ByteArray.empty⟩) hx4.p1).1; dsimp only at c4; have z4 := frozen_blk hx4.p1.at 0; have hx4 : Sat E _ (pt h (.cells (⟨e, 0, 0, 0, ByteArray.empty⟩ : Pc).arr 23) :: isRf b s 4 0 :: pt q (.cells noPc.arr 23) :: L) := hx4.p1.setCell 0 (.int .i64 e); have HX4 := Lib.hid hx4; clear hx4)
    | (go_at_call 54; with_reducible refine (refU8_to (p := 4) (q := 12) (by omega) HX4.out.p1 (by omega) (by omega) (by rw [F1.out]; omega)).mono ?_; rintro e5 w5 ⟨rfl, hx5⟩; rw [F1.out]; have c5 := (pc5 (p := ⟨e, 0, 0, 0, ByteArray.empty⟩) hx5.p1).2.1; dsimp only at c5; have z5 := frozen_blk hx5.p1.at 1; have hx5 : Sat E _ (pt h (.cells (⟨e, sq, 0, 0, ByteArray.empty⟩ : Pc).arr 23) :: isRf b s 12 0 :: pt q (.cells noPc.arr 23) :: L) := hx5.p1.setCell 1 (.int .i64 sq); have HX5 := Lib.hid hx5; clear hx5)
    | (go_at_call 54; with_reducible refine (refU4_to (p := 12) (q := 16) (by omega) HX5.out.p1 (by omega) (by omega)).mono ?_; rintro e6 w6 ⟨rfl, hx6⟩; rw [F2.out]; have c6 := (pc5 (p := ⟨e, sq, 0, 0, ByteArray.empty⟩) hx6.p1).2.2.1; dsimp only at c6; have z6 := frozen_blk hx6.p1.at 2; have hx6 : Sat E _ (pt h (.cells (⟨e, sq, t, 0, ByteArray.empty⟩ : Pc).arr 23) :: isRf b s 16 0 :: pt q (.cells noPc.arr 23) :: L) := hx6.p1.setCell 2 (.int .i64 t); have HX6 := Lib.hid hx6; clear hx6)
    | (go_at_call 54; with_reducible refine (refU4_to (p := 16) (q := 20) (by omega) HX6.out.p1 (by omega) (by omega)).mono ?_; rintro e7 w7 ⟨rfl, hx7⟩; rw [F3.out]; have c7 := (pc5 (p := ⟨e, sq, t, 0, ByteArray.empty⟩) hx7.p1).2.2.2.1; dsimp only at c7; have z7 := frozen_blk hx7.p1.at 3; have hx7 : Sat E _ (pt h (.cells (⟨e, sq, t, n, ByteArray.empty⟩ : Pc).arr 23) :: isRf b s 20 0 :: pt q (.cells noPc.arr 23) :: L) := hx7.p1.setCell 3 (.int .i64 n); have HX7 := Lib.hid hx7; clear hx7)
    | (go_at_call 54; with_reducible refine (refU4_to (p := 20) (q := 24) (by omega) HX7.out.p1 (by omega) (by omega)).mono ?_; rintro e8 w8 ⟨rfl, hx8⟩; rw [F4.out]; have k2 : w8.cell? ⟨b, 2, none⟩ = some (.int .i64 0) := cell_blk hx8.at 2; obtain ⟨d0, d1, d2, d3, d4⟩ := pc5 (p := ⟨e, sq, t, n, ByteArray.empty⟩) hx8.p1; dsimp only at d0 d1 d2 d3 d4; have f4 := frozen_blk hx8.p1.at 4; have HX8 := Lib.hid hx8; clear hx8)
    | (go_at_call 12; go_loud (have hx9 : Sat E (w8.setCell ⟨h, 4, none⟩ (.string X)) (pt h (.cells (⟨e, sq, t, n, X⟩ : Pc).arr 23) :: isRf b s 24 0 :: pt q (.cells noPc.arr 23) :: L) := HX8.out.p1.setCell 4 (.string X); have hck := refCheck_ok p (w8.setCell ⟨h, 4, none⟩ (.string X)) HPD.out; rw [Pc.val_arr, HPA.out] at hck; refine hck.mono ?_; clear hck d0 d1 d2 d3 d4 f4; rintro e9 w9 ⟨rfl, hb9⟩; rw [HOK.out]; have hx9 := hx9.ofBelow hb9; clear hb9; obtain ⟨d0, d1, d2, d3, d4⟩ := pc5 (p := ⟨e, sq, t, n, X⟩) hx9; dsimp only at d0 d1 d2 d3 d4; have HX9 := Lib.hid hx9; clear hx9))
    | (go_at_call 15; go_loud (have hby := refPc_ok HX9.out p HNP.out; rw [HPA.out] at hby; refine hby.mono ?_; clear hby d0 d1 d2 d3 d4; rintro e10 w10 ⟨rfl, hx10⟩; rw [HBT.out]; obtain ⟨d0, d1, d2, d3, d4⟩ := pc5 (p := ⟨e, sq, t, n, X⟩) hx10; dsimp only at d0 d1 d2 d3 d4; have HX10 := Lib.hid hx10; clear hx10))
    | (with_reducible refine wpList_store_pc HX10.out.p2 ⟨e, sq, t, n, X⟩ ?_ ?_; exact ⟨rfl, _, _, rfl, rfl, rfl⟩; intro w11 hx11; have HX11 := Lib.hid hx11; clear hx11))
  have HX11 : Hid (Sat E w11 (pt q (.cells p.arr 23) :: _)) := Lib.hid (by rw [HPE.out]; exact HX11.out)
  refine bodyPost_ret (v := .tuple #[.agg p.arr, .bool true]) ?_ rfl ⟨rfl, HX11.out.tail.tail.tail⟩
  rw [results_cell_tmp rfl]
  simp [asAddr, load_pc HX11.out, Result.andThen]

set_option maxRecDepth 100000 in
set_option maxHeartbeats 600000 in
theorem rpcGet_top {E W : World} {L : List HP} (x : Sat E W L) (s : ByteArray) (hz : s.size = 128) (hg : ¬ fld s 4 8 ≤ 9223372036854775807) : Calls Tryz.prog 16 #[.string s] W fun e w' => e = .returned (.tuple #[.agg noPc.arr, .bool false]) ∧ Sat E w' L := by
  have hx1 := zp x
  obtain ⟨q, hq⟩ : ∃ q, W.heap.size = q := ⟨_, rfl⟩
  rw [hq] at hx1
  obtain ⟨e, he⟩ : ∃ e, fld s 0 4 = e := ⟨_, rfl⟩
  have F0 := Lib.hid he
  obtain ⟨b, hb⟩ : ∃ b, q + 1 = b := ⟨_, rfl⟩
  obtain ⟨h, hh⟩ : ∃ b', b + 1 = b' := ⟨_, rfl⟩
  have hx1 := zq x
  rw [hq] at hx1
  have hx3 := zq (hx1.alloc (.cells #[.string s, .int .i64 0, .int .i64 0] 88))
  rw [World.size_alloc, World.size_alloc, hq, hb, hh] at hx3
  have HX3 : Hid (Sat E _ (pt h (.cells (⟨0, 0, 0, 0, ByteArray.empty⟩ : Pc).arr 23) :: isRf b s 0 0 :: pt q (.cells noPc.arr 23) :: L)) := Lib.hid hx3
  clear hx3
  have HX1 := Lib.hid hx1
  clear he hx1 x
  go_enter Tryz.func16, Tryz.ntmps16
  go_wp2_with (first
    | (go_at_call 54; with_reducible refine (refU4_to (p := 0) (q := 4) (by omega) HX3.out.p1 (by omega) (by omega)).mono ?_; rintro e4 w4 ⟨rfl, hx4⟩; rw [F0.out]; have c4 := (pc5 (p := ⟨0, 0, 0, 0, ByteArray.empty⟩) hx4.p1).1; dsimp only at c4; have z4 := frozen_blk hx4.p1.at 0; have hx4 : Sat E _ (pt h (.cells (⟨e, 0, 0, 0, ByteArray.empty⟩ : Pc).arr 23) :: isRf b s 4 0 :: pt q (.cells noPc.arr 23) :: L) := hx4.p1.setCell 0 (.int .i64 e); have HX4 := Lib.hid hx4; clear hx4)
    | (go_at_call 54; with_reducible refine (refU8_top (p := 4) HX4.out.p1 (by omega) (by omega) hg).mono ?_; rintro e5 w5 ⟨rfl, hx5⟩; have c5 := (pc5 (p := ⟨e, 0, 0, 0, ByteArray.empty⟩) hx5.p1).2.1; dsimp only at c5; have z5 := frozen_blk hx5.p1.at 1; have hx5 : Sat E _ (pt h (.cells (⟨e, 0, 0, 0, ByteArray.empty⟩ : Pc).arr 23) :: _) := hx5.p1.setCell 1 (.int .i64 0); have HX5 := Lib.hid hx5; clear hx5)
    | (go_at_call 54; with_reducible refine (refU4_bad (by omega) HX5.out.p1 (by omega) (by omega)).mono ?_; rintro e6 w6 ⟨rfl, hx6⟩; have c6 := (pc5 (p := ⟨e, 0, 0, 0, ByteArray.empty⟩) hx6.p1).2.2.1; dsimp only at c6; have z6 := frozen_blk hx6.p1.at 2; have hx6 : Sat E _ (pt h (.cells (⟨e, 0, 0, 0, ByteArray.empty⟩ : Pc).arr 23) :: _) := hx6.p1.setCell 2 (.int .i64 0); have HX6 := Lib.hid hx6; clear hx6)
    | (go_at_call 54; with_reducible refine (refU4_bad (by omega) HX6.out.p1 (by omega) (by omega)).mono ?_; rintro e7 w7 ⟨rfl, hx7⟩; have c7 := (pc5 (p := ⟨e, 0, 0, 0, ByteArray.empty⟩) hx7.p1).2.2.2.1; dsimp only at c7; have z7 := frozen_blk hx7.p1.at 3; have hx7 : Sat E _ (pt h (.cells (⟨e, 0, 0, 0, ByteArray.empty⟩ : Pc).arr 23) :: _) := hx7.p1.setCell 3 (.int .i64 0); have HX7 := Lib.hid hx7; clear hx7)
    | (go_at_call 54; with_reducible refine (refU4_bad (by omega) HX7.out.p1 (by omega) (by omega)).mono ?_; rintro e8 w8 ⟨rfl, hx8⟩; have k2 := cell_blk hx8.at 2; have HX8 := Lib.hid hx8; clear hx8)
    | (with_reducible refine wpList_store_pc HX8.out.p2 noPc ?_ ?_; exact ⟨rfl, _, _, rfl, rfl, rfl⟩; intro w9 hx9; have HX9 := Lib.hid hx9; clear hx9))
  refine bodyPost_ret (v := .tuple #[.agg noPc.arr, .bool false]) ?_ rfl ⟨rfl, HX9.out.tail.tail.tail⟩
  rw [results_cell_tmp rfl]
  simp [asAddr, load_pc HX9.out, Result.andThen]

theorem rpcGet_ok {E W : World} {L : List HP} (x : Sat E W L) (s : ByteArray) (hs : s.size ≤ 9223372036854775807) : Calls Tryz.prog 16 #[.string s] W fun e w' => e = .returned (.tuple #[.agg (getPcV s).arr, .bool (getPcB s)]) ∧ Sat E w' L := by
  by_cases hz : s.size = 128
  · by_cases hg : fld s 4 8 ≤ 9223372036854775807
    · by_cases hl : fld s 20 4 ≤ 100
      · cases hok : okPc (pcOfB s) with
        | false =>
          obtain ⟨e1, _, e2⟩ := getPc_no (getPc_none (s := s) fun h => by rw [hok] at h; exact absurd h.2.2.2.1 (by simp))
          rw [e1, e2]; exact rpcGet_bad x s hz hg hl hok
        | true =>
          by_cases hd : pcB (pcOfB s) = s
          · obtain ⟨e1, _, e2⟩ := getPc_yes (s := s) (p := pcOfB s) (by unfold getPc; rw [if_pos ⟨hz, hg, hl, hok, hd⟩])
            rw [e1, e2]; exact rpcGet_yes x s hz hg hl hok hd
          · obtain ⟨e1, _, e2⟩ := getPc_no (getPc_none (s := s) fun h => hd h.2.2.2.2)
            rw [e1, e2]; exact rpcGet_diff x s hz hg hl hok hd
      · obtain ⟨e1, _, e2⟩ := getPc_no (getPc_none (s := s) fun h => hl h.2.2.1)
        rw [e1, e2]; exact rpcGet_len x s hz hg hl
    · obtain ⟨e1, _, e2⟩ := getPc_no (getPc_none (s := s) fun h => hg h.2.1)
      rw [e1, e2]; exact rpcGet_top x s hz hg
  · obtain ⟨e1, _, e2⟩ := getPc_no (getPc_none (s := s) fun h => hz h.1)
    rw [e1, e2]; exact rpcGet_size x s hs hz

end Go.Proofs.YtmkpglabiikdeaaGreatDoor
/-
  The document's journal: what its reader collects; plain laws, no program in sight.
-/
namespace Go.Proofs.YtmkpglabiikdeaaGreatDoor
open Go.RowKit PH
attribute [local irreducible] fld pcB pcOfB left getPc

/-- What is collected so far, and what is to come. -/
def colSt (f : Nat → Option Pc) (C b : Nat) (seq : Int) (P : List Pc) : Prop := P.length ≤ C ∧ (∀ p ∈ P, p.data.size ≤ 100) ∧ col f C b seq C 0 = P ++ col f C b seq (C - P.length) P.length
theorem colSt_nil {f : Nat → Option Pc} {C b : Nat} {seq : Int} : colSt f C b seq [] := ⟨Nat.zero_le _, (fun p hp => by simp at hp), rfl⟩
theorem colSt_end {f : Nat → Option Pc} {C b : Nat} {seq : Int} {P : List Pc} (h : colSt f C b seq P) (hb : C ≤ b + P.length) : col f C b seq C 0 = P := by
  rw [h.2.2]
  cases hk : C - P.length with
  | zero => unfold col; simp
  | succ k => unfold col; rw [if_neg (by omega)]; simp
theorem colSt_none {f : Nat → Option Pc} {C b : Nat} {seq : Int} {P : List Pc} (h : colSt f C b seq P) (hf : f (b + P.length) = none) : col f C b seq C 0 = P := by
  rw [h.2.2]
  cases hk : C - P.length with
  | zero => unfold col; simp
  | succ k => unfold col; rw [hf]; simp
theorem colSt_other {f : Nat → Option Pc} {C b : Nat} {seq : Int} {P : List Pc} {p : Pc} (h : colSt f C b seq P) (hf : f (b + P.length) = some p) (hn : ¬ (p.part = P.length ∧ p.seq = seq)) : col f C b seq C 0 = P := by
  rw [h.2.2]
  cases hk : C - P.length with
  | zero => unfold col; simp
  | succ k => unfold col; rw [hf]; dsimp only; rw [if_neg hn]; simp
theorem colSt_last {f : Nat → Option Pc} {C b : Nat} {seq : Int} {P : List Pc} {p : Pc} (h : colSt f C b seq P) (hb : b + P.length < C) (hf : f (b + P.length) = some p) (hn : p.part = P.length ∧ p.seq = seq) (hl : p.part = p.parts - 1) : col f C b seq C 0 = P ++ [p] := by
  rw [h.2.2]
  obtain ⟨k, hk⟩ : ∃ k, C - P.length = k + 1 := ⟨C - P.length - 1, by omega⟩
  rw [hk]
  conv => lhs; unfold col
  rw [if_pos hb, hf]; dsimp only; rw [if_pos hn, if_pos hl]
theorem colSt_more {f : Nat → Option Pc} {C b : Nat} {seq : Int} {P : List Pc} {p : Pc} (h : colSt f C b seq P) (hb : b + P.length < C) (hok : okPc p = true) (hf : f (b + P.length) = some p) (hn : p.part = P.length ∧ p.seq = seq) (hl : ¬ p.part = p.parts - 1) : colSt f C b seq (P ++ [p]) := by
  refine ⟨by rw [List.length_append, List.length_singleton]; omega, fun q hq => ?_, ?_⟩
  · rcases List.mem_append.1 hq with hq | hq
    · exact h.2.1 q hq
    · rw [List.mem_singleton] at hq; subst hq; exact okPc_data hok
  · rw [h.2.2]
    obtain ⟨k, hk⟩ : ∃ k, C - P.length = k + 1 := ⟨C - P.length - 1, by omega⟩
    rw [hk, List.length_append, List.length_singleton, show C - (P.length + 1) = k from by omega]
    conv => lhs; unfold col
    rw [if_pos hb, hf]; dsimp only; rw [if_pos hn, if_neg hl]
    simp
theorem col_data {D : Dk} {r : Rg} {start C b : Nat} {seq : Int} {k : Nat} : ∀ p ∈ col (pcAt D r start) C b seq k 0, p.data.size ≤ 100 := fun p hp => by
  obtain ⟨j, hj⟩ := List.getElem?_of_mem hp
  exact okPc_data (pcAt_ok (col_get k 0 j p hj).1)
theorem col_len {f : Nat → Option Pc} {C b : Nat} {seq : Int} {k : Nat} : b + (col f C b seq k 0).length ≤ C ∨ (col f C b seq k 0).length = 0 := by
  cases h : (col f C b seq k 0).length with
  | zero => exact .inr rfl
  | succ n =>
    have e := List.getElem?_eq_getElem (show n < (col f C b seq k 0).length by omega)
    have := (col_get k 0 _ _ e).2.2
    exact .inl (by omega)
theorem stands_bad {f : Nat → Option Pc} {C b : Nat} {E least seq : Int} {k : Nat} {l : List Pc} (hl : col f C b seq C 0 = l) (hw : whole l = false) : stands f C E k b least seq = [] := by
  cases k with
  | zero => rfl
  | succ k =>
    unfold stands
    split
    · rw [(col_rec (k := C) (by omega)).2 (by rw [hl]; exact hw)]
    · rfl
theorem stands_old {f : Nat → Option Pc} {C b : Nat} {E least seq : Int} {k : Nat} {l : List Pc} (hl : col f C b seq C 0 = l) (hw : whole l = true) (he : epochOf l < least ∨ E ≤ epochOf l) : stands f C E k b least seq = [] := by
  cases k with
  | zero => rfl
  | succ k =>
    unfold stands
    split
    · rw [(col_rec (k := C) (by omega)).1 (by rw [hl]; exact hw), hl]
      dsimp only
      rw [if_pos he]
    · rfl
theorem stands_next {f : Nat → Option Pc} {C b : Nat} {E least seq : Int} {k : Nat} {l : List Pc} (hl : col f C b seq C 0 = l) (hw : whole l = true) (he : ¬ (epochOf l < least ∨ E ≤ epochOf l)) (hb : b < C) (hk : 0 < k) : stands f C E k b least seq = l :: stands f C E (k - 1) (b + l.length) (epochOf l) (seq + 1) := by
  obtain ⟨k, rfl⟩ : ∃ m, k = m + 1 := ⟨k - 1, by omega⟩
  conv => lhs; unfold stands
  rw [if_pos hb, (col_rec (k := C) (by omega)).1 (by rw [hl]; exact hw), hl]
  dsimp only
  rw [if_neg he]; rfl
theorem stands_full {f : Nat → Option Pc} {C b : Nat} {E least seq : Int} {k : Nat} (hb : C ≤ b) : stands f C E k b least seq = [] := by
  cases k with
  | zero => rfl
  | succ k => unfold stands; rw [if_neg (by omega)]
/-- What was found so far, and what is to come. -/
structure MopI (f : Nat → Option Pc) (C : Nat) (E si sq : Int) (ys : List (List Pc)) (U : Nat) (least : Int) : Prop where
  u : (ys.map List.length).sum = U
  uC : U ≤ C
  yl : ys.length ≤ U
  tot : stands f C E C 0 si sq = ys ++ stands f C E (C - ys.length) U least (sq + ys.length)
  l0 : 1 ≤ least
  l1 : least ≤ 4294967296
theorem MopI.zero {f : Nat → Option Pc} {C : Nat} {E si sq : Int} (h0 : 1 ≤ si) (h1 : si ≤ 4294967296) : MopI f C E si sq [] 0 si :=
  ⟨rfl, Nat.zero_le _, Nat.le_refl _, by simp, h0, h1⟩
theorem MopI.next {f : Nat → Option Pc} {C : Nat} {E si sq : Int} {ys : List (List Pc)} {U : Nat} {least : Int} (I : MopI f C E si sq ys U least) {l : List Pc} (hl : col f C U (sq + ys.length) C 0 = l) (hw : whole l = true) (he : ¬ (epochOf l < least ∨ E ≤ epochOf l)) (hb : U < C) (hE : E ≤ 4294967296) :
    MopI f C E si sq (ys ++ [l]) (U + l.length) (epochOf l) := by
  have h0 := (goods_all hw).1
  have hy := I.yl
  have hlen : U + l.length ≤ C := by
    rcases col_len (f := f) (C := C) (b := U) (seq := sq + ys.length) (k := C) with h | h
    · rw [hl] at h; exact h
    · rw [hl] at h; omega
  refine ⟨by simp [I.u], hlen, by rw [List.length_append, List.length_singleton]; omega, ?_, by have := I.l0; omega, by omega⟩
  rw [I.tot, stands_next hl hw he hb (by omega), List.length_append, List.length_singleton]
  simp only [List.append_assoc, List.singleton_append]
  congr 2
  rw [show C - (ys.length + 1) = C - ys.length - 1 from by omega, show sq + ((ys.length + 1 : Nat) : Int) = sq + (ys.length : Int) + 1 from by push_cast; omega]
theorem MopI.stop {f : Nat → Option Pc} {C : Nat} {E si sq : Int} {ys : List (List Pc)} {U : Nat} {least : Int} (I : MopI f C E si sq ys U least) (h : stands f C E (C - ys.length) U least (sq + ys.length) = []) : stands f C E C 0 si sq = ys := by
  rw [I.tot, h, List.append_nil]
theorem MopI.grow {f : Nat → Option Pc} {C : Nat} {E si sq : Int} {ys : List (List Pc)} {U : Nat} {least : Int} (I : MopI f C E si sq ys U least) : ys.length ≤ (stands f C E C 0 si sq).length := by
  rw [I.tot, List.length_append]; omega
theorem epoch_get {l : List Pc} {p : Pc} (h : l[0]? = some p) : epochOf l = p.epoch := by unfold epochOf; rw [h]
end Go.Proofs.YtmkpglabiikdeaaGreatDoor
/-
  The document's journal, opened: walked.
-/
namespace Go.Proofs.YtmkpglabiikdeaaGreatDoor
open Go.RowKit PH
attribute [local irreducible] fld pcB pcOfB left getPc

/-- The document's journal at block m. -/
def Rg.mr (r : Rg) : Array Value := #[.int .i64 r.fro, .int .i64 r.cnt, .int .i64 r.pos, .int .i64 r.used, .int .i64 r.seq, .int .i64 r.ep]
def isMr (m : Nat) (r : Rg) : HP := pt m (.cells r.mr 64)
def noRg : Rg := ⟨0, 0, 0, 0, 0, 0⟩
theorem mr6 {E w : World} {L : List HP} {m : Nat} {r : Rg} (x : Sat E w (isMr m r :: L)) : w.cell? ⟨m, 0, none⟩ = some (.int .i64 r.fro) ∧ w.cell? ⟨m, 1, none⟩ = some (.int .i64 r.cnt) ∧ w.cell? ⟨m, 2, none⟩ = some (.int .i64 r.pos) ∧ w.cell? ⟨m, 3, none⟩ = some (.int .i64 r.used) ∧
    w.cell? ⟨m, 4, none⟩ = some (.int .i64 r.seq) ∧ w.cell? ⟨m, 5, none⟩ = some (.int .i64 r.ep) :=
  ⟨cell_blk x.at 0, cell_blk x.at 1, cell_blk x.at 2, cell_blk x.at 3, cell_blk x.at 4, cell_blk x.at 5⟩
theorem zmr {E w : World} {L : List HP} (x : Sat E w L) : Sat E (w.alloc (.cells #[.int .i64 0, .int .i64 0, .int .i64 0, .int .i64 0, .int .i64 0, .int .i64 0] 64)) (isMr w.heap.size noRg :: L) := x.alloc _
theorem load_mr {E w : World} {L : List HP} {q : Nat} {p : Rg} (x : Sat E w (isMr q p :: L)) : (loadVar 64 ⟨q, 0, none⟩).run Tryz.prog w = .ok (.agg p.mr) w := by
  obtain ⟨d0, d1, d2, d3, d4, d5⟩ := mr6 x
  go_simp
  rfl
theorem infoMr : (Tryz.prog.info? 64).map (·.size) = some 6 := by kernel_rfl
theorem mr_one (r : Rg) : r.mr.all (·.oneCell') = true := all_oneCell_toArray (cs := [.int .i64 r.fro, .int .i64 r.cnt, .int .i64 r.pos, .int .i64 r.used, .int .i64 r.seq, .int .i64 r.ep]) (fun v hv => by
  simp at hv
  rcases hv with rfl | rfl | rfl | rfl | rfl | rfl <;> rfl)
theorem wpList_store_mr {E w : World} {L : List HP} {ops : Array Oper} {rest : List Oper} {op : Oper} {a : Act} {Q : Exit → Act → World → Prop} {q : Nat} {U : Rg} (S : Sat E w (isMr q U :: L)) (V : Rg)
    (hop : op.guard = none ∧ ∃ x y : Operand, op.op = .store 64 x y ∧ a.eval x = .pointer (some ⟨q, 0, none⟩) ∧ a.eval y = .agg #[.int .i64 V.fro, .int .i64 V.cnt, .int .i64 V.pos, .int .i64 V.used, .int .i64 V.seq, .int .i64 V.ep])
    (h : ∀ w', Sat E w' (isMr q V :: L) → wpList Tryz.prog ops Q rest (a.put op.dst undef) w') : wpList Tryz.prog ops Q (op :: rest) a w :=
  by
  obtain ⟨hgd, x, y, ho, hx, hy⟩ := hop
  exact wpList_store_mid hgd 64 x y ho q 0 V.mr hx hy (pt_there S rfl) infoMr (mr_one V) (h _ (setCells_all (C := V.mr) S rfl))
/-- A loop in a block, what goes on behind it said once. -/
theorem wp_midloop {P : Program} {c : Code} {id : Nat} {R I : Act → World → Prop} {Q : Exit → Act → World → Prop} {a : Act} {w : World} (h : (Code.loop c).wp P (Exit.inBlock id (Exit.then I Q)) a w) (hI : ∀ a w, I a w → R a w) : (Code.loop c).wp P (Exit.inBlock id (Exit.then R Q)) a w :=
  wp_mono h (fun e a w hq => by
    unfold Exit.inBlock Exit.then at *
    cases e <;> first | exact hI _ _ hq | exact hq | (dsimp only at *; split at hq <;> first | (rename_i hc; rw [if_pos hc]; first | exact hI _ _ hq | exact hq) | (rename_i hc; rw [if_neg hc]; first | exact hI _ _ hq | exact hq)))
theorem ref_read {E W : World} {L : List HP} {b : Nat} {D : Dk} (x : Sat E W (isRef b D :: L)) (hm : madeB D = true) (ok : OkD D) (ha : aliveE D = 0) {r : Rg} (hc : 0 < r.cnt) (hc1 : r.fro + r.cnt ≤ D.kept.length) (start i : Nat) :
    Calls Tryz.prog 70 #[.pointer (some ⟨b, 0, none⟩), .int .i64 (sec r start i)] W fun e w' => e = .returned (.tuple #[.string (readV D (sec r start i)), .int .i64 0]) ∧ Sat E w' (isRef b D :: L) := by
  have h := refread_ok x hm ok (sec r start i)
  have ht := there_sec ha hc hc1 start i
  have hr : readS D (sec r start i) = readV D (sec r start i) := by unfold readS; rw [if_pos ht]
  rw [hr, ht] at h
  exact h

theorem row_seesP {E w : World} {L : List HP} {e : TypeId} {sz : Nat} {a : Option Addr} {n c : Nat} {cs : List Value} (x : Sat E w (row e sz (.slice a n c) n cs :: L)) : Sees w a cs := fun j u hj => by
  have hl := x.rowCases.1
  have hjl := (List.getElem?_eq_some_iff.1 hj).1
  obtain ⟨g, cap, e, -, -, -, hsee⟩ := x.rowSees (by rcases Nat.eq_zero_or_pos n with h | h; (subst h; omega); exact h)
  cases e
  exact ⟨g, 0, rfl, hsee j u hj⟩
theorem row_first {E w : World} {L : List HP} {v : Value} {l : List Pc} {p : Pc} (x : Sat E w (row 23 5 v l.length (pcs l) :: L)) (h : l[0]? = some p) : ∃ g c, v = .slice (some ⟨g, 0, none⟩) l.length c ∧ w.cell? ⟨g, 0, none⟩ = some (.int .i64 p.epoch) := by
  obtain ⟨g, cap, e, -, -, -, hsee⟩ := x.rowSees (by have := (List.getElem?_eq_some_iff.1 h).1; omega)
  refine ⟨g, cap, e, hsee 0 _ ?_⟩
  cases l with
  | nil => simp at h
  | cons q r => simp at h; subst h; rfl

set_option maxRecDepth 100000 in
set_option maxHeartbeats 3200000 in
theorem refOpen_ok {E W : World} {L : List HP} {b : Nat} {D : Dk} (x : Sat E W (isRef b D :: L)) (ok : OkD D) (ha : aliveE D = 0) (hm : madeB D = true) (hR : ∀ i, (readV D i).size ≤ 9223372036854775807) {fr cn po : Nat} {sq si ep : Int} (ho : OkOpen D fr cn po sq si ep) (hov : sq + (openT D fr cn po sq si ep).length ≤ 9223372036854775807) :
    Calls Tryz.prog 32 #[.pointer (some ⟨b, 0, none⟩), .int .i64 fr, .int .i64 cn, .int .i64 po, .int .i64 sq, .int .i64 si, .int .i64 ep] W fun e w' =>
      ∃ v, e = .returned (.tuple #[.agg (openR D fr cn po sq si ep).mr, v]) ∧ Sat E w' (isRef b D :: row 9 1 v (openT D fr cn po sq si ep).length (sects ((openT D fr cn po sq si ep).map joined)) :: L) := by
  have hlen := stands_len (f := pcAt D ⟨fr, cn, 0, 0, sq, ep⟩ po) (C := cn) (E := ep) (k := cn) (b := 0) (least := si) (seq := sq) (by omega)
  have hopr : openR D fr cn po sq si ep = ⟨fr, cn, (po + ((openT D fr cn po sq si ep).map List.length).sum) % cn, ((openT D fr cn po sq si ep).map List.length).sum, sq + (openT D fr cn po sq si ep).length, ep⟩ := rfl
  have hT0 : openT D fr cn po sq si ep = stands (pcAt D ⟨fr, cn, 0, 0, sq, ep⟩ po) cn ep cn 0 si sq := rfl
  change 0 + ((openT D fr cn po sq si ep).map List.length).sum ≤ cn ∧ (openT D fr cn po sq si ep).length ≤ ((openT D fr cn po sq si ep).map List.length).sum at hlen
  have hrd := fun (i : Nat) (W : World) (M : List HP) (y : Sat E W (isRef b D :: M)) => ref_read (r := ⟨fr, cn, 0, 0, sq, ep⟩) y hm ok ha ho.c0 ho.c1 po i
  have hget := fun (i : Nat) (W : World) (M : List HP) (y : Sat E W M) => rpcGet_ok y (readV D (sec ⟨fr, cn, 0, 0, sq, ep⟩ po i)) (hR _)
  have hF : ∀ i, pcAt D ⟨fr, cn, 0, 0, sq, ep⟩ po i = getPc (readV D (sec ⟨fr, cn, 0, 0, sq, ep⟩ po i)) := fun i => rfl
  have hsec : ∀ i : Nat, (fr : Int) + ((po : Int) + (i : Int)) % (cn : Int) = ((sec ⟨fr, cn, 0, 0, sq, ep⟩ po i : Nat) : Int) := fun i => by unfold sec; push_cast; rfl
  have hkb : ∀ i : Nat, sec ⟨fr, cn, 0, 0, sq, ep⟩ po i < fr + cn := fun i => by have := Nat.mod_lt (po + i) ho.c0; unfold sec; dsimp only; omega
  have hdata := fun (b : Nat) (s : Int) => col_data (D := D) (r := ⟨fr, cn, 0, 0, sq, ep⟩) (start := po) (C := cn) (b := b) (seq := s) (k := cn)
  obtain ⟨S, hS⟩ : ∃ S : Nat → ByteArray, ∀ i, readV D (sec ⟨fr, cn, 0, 0, sq, ep⟩ po i) = S i := ⟨_, fun _ => rfl⟩
  obtain ⟨K, hK⟩ : ∃ S : Nat → Nat, ∀ i, sec ⟨fr, cn, 0, 0, sq, ep⟩ po i = S i := ⟨_, fun _ => rfl⟩
  obtain ⟨F, hFF⟩ : ∃ F, pcAt D ⟨fr, cn, 0, 0, sq, ep⟩ po = F := ⟨_, rfl⟩
  obtain ⟨T, hT⟩ : ∃ T, openT D fr cn po sq si ep = T := ⟨_, rfl⟩
  simp only [hS] at hrd hget hF
  simp only [hK] at hrd hsec hkb
  rw [hFF] at hT0 hdata
  simp only [hFF] at hF
  rw [hT] at hT0 hopr hlen hov
  rw [hopr, hT]
  obtain ⟨TL, hTL⟩ : ∃ n, T.length = n := ⟨_, rfl⟩
  obtain ⟨UT, hUT⟩ : ∃ n, (T.map List.length).sum = n := ⟨_, rfl⟩
  rw [hTL, hUT]
  rw [hTL, hUT] at hlen
  obtain ⟨M, hM⟩ : ∃ M : Nat, (po + UT) % cn = M := ⟨_, rfl⟩
  rw [hM]
  rw [hTL] at hov
  have c0 := ho.c0
  have c1 := ho.c1
  have c2 := ho.c2
  have p1 := ho.p
  have s0 := ho.s0
  have s1 := ho.s1
  have e0 := ho.e0
  have e1 := ho.e1
  have i0 := ho.i0
  have i1 := ho.i1
  obtain ⟨N, hN⟩ : ∃ N, D.kept.length = N := ⟨_, rfl⟩
  rw [hN] at c1 c2
  have hx1 := zmr (zmr x)
  simp only [World.size_alloc] at hx1
  obtain ⟨q, hq⟩ : ∃ q, W.heap.size = q := ⟨_, rfl⟩
  rw [hq] at hx1
  have HX := Lib.hid hx1
  have HRD := Lib.hid hrd
  have HGET := Lib.hid hget
  have HF := Lib.hid hF
  have HSEC := Lib.hid hsec
  have HDATA := Lib.hid hdata
  have HKB := Lib.hid hkb
  have HT0 := Lib.hid hT0
  have HTL := Lib.hid hTL
  have HUT := Lib.hid hUT
  have HM := Lib.hid hM
  clear hM
  clear x hrd hget hF hsec hkb hdata hT0 hTL hUT hS hK hFF hT hopr ok ha hm hR ho hN hx1
  go_enter Tryz.func32, Tryz.ntmps32
  go_wp2_with (first
    | (with_reducible refine wpList_store_mr HX.out (⟨fr, cn, po, 0, sq, ep⟩ : Rg) ?_ ?_; exact ⟨rfl, _, _, rfl, rfl, rfl⟩; intro w2 hx2; have HX2 := Lib.hid ((hx2.p2.rowNil 9 1)); clear hx2 HX))
  rename_i K0 hK0
  refine wp_midloop (I := (fun a' w' => ∃ (u7 u8 u9 u10 u11 u12 u13 u18 u19 u20 u21 u22 u23 u24 u25 u26 u27 u28 u29 u30 u31 u32 u33 u34 u35 u36 u37 u38 u39 u40 u41 u42 u43 u44 u45 u46 u47 u48 u49 u50 u51 u52 u53 u54 u55 u56 u57 u58 u59 u60 u61 u62 u63 u64 u65 u66 u67 u68 u69 u70 u71 u72 u73 u74 u75 u76 u77 u78 u79 u80 u81 u82 u83 u84 u85 u86 u87 u88 u89 u90 u91 u92 u93 u94 u95 u96 u97 u98 u99 u100 u101 u102 u103 u104 u105 u106 u107 u108 u109 u110 u111 u112 u113 u114 u115 u116 u117 u118 u119 u120 u121 u122 u123 u124 u125 u126 u127 u128 u129 u130 u131 u132 u133 u134 u135 u136 u137 u138 u139 u140 v : Value), Sat E w' (isMr (q + 1) ⟨fr, cn, po, UT, sq + TL, ep⟩ :: isRef b D :: row 9 1 v TL (sects (T.map joined)) :: isMr q noRg :: L) ∧ a' = ⟨#[.pointer (some ⟨b, 0, none⟩), .int .i64 (fr : Int), .int .i64 (cn : Int), .int .i64 (po : Int), .int .i64 sq, .int .i64 si, .int .i64 ep, u7, u8, u9, u10, u11, u12, u13, .pointer (some ⟨q, 0, none⟩), .slice none 0 0, .pointer (some ⟨q + 1, 0, none⟩), v, u18, u19, u20, u21, u22, u23, u24, u25, u26, u27, u28, u29, u30, u31, u32, u33, u34, u35, u36, u37, u38, u39, u40, u41, u42, u43, u44, u45, u46, u47, u48, u49, u50, u51, u52, u53, u54, u55, u56, u57, u58, u59, u60, u61, u62, u63, u64, u65, u66, u67, u68, u69, u70, u71, u72, u73, u74, u75, u76, u77, u78, u79, u80, u81, u82, u83, u84, u85, u86, u87, u88, u89, u90, u91, u92, u93, u94, u95, u96, u97, u98, u99, u100, u101, u102, u103, u104, u105, u106, u107, u108, u109, u110, u111, u112, u113, u114, u115, u116, u117, u118, u119, u120, u121, u122, u123, u124, u125, u126, u127, u128, u129, u130, u131, u132, u133, u134, u135, u136, u137, u138, u139, u140], []⟩)) ?_ ?_
  · go_loopw [17, 18] (fun o l wr => ∃ (ys : List (List Pc)) (U : Nat) (least : Int) (v : Value), MopI F cn ep si sq ys U least ∧ o = v ∧ l = .int .i64 least ∧
      Sat E wr (isMr (q + 1) ⟨fr, cn, po, U, sq + ys.length, ep⟩ :: isRef b D :: row 9 1 v ys.length (sects (ys.map joined)) :: isMr q noRg :: L)) (fun _ _ wr => cn - (intOf ((wr.cell? ⟨q + 1, 3, none⟩).getD undef)).toNat)
    case atStart =>
      have hx := HX2.out.p1.p2
      refine ⟨[], 0, si, _, .zero i0 (by omega), rfl, rfl, ?_⟩
      rw [show sq + ((([] : List (List Pc)).length : Nat) : Int) = sq from by simp]
      exact hx
    case round =>
      clear hK0 HX2
      obtain ⟨ys, U, least, v, hI, ho, rfl, hx⟩ := hrel
      have ho := ho.symm
      subst ho
      have hyl := hI.grow
      rw [← HT0.out, HTL.out] at hyl
      have hUC := hI.uC
      have l0 := hI.l0
      have l1 := hI.l1
      obtain ⟨c0, c1, c2, c3, c4, c5⟩ := mr6 hx
      dsimp only at c0 c1 c2 c3 c4 c5
      obtain ⟨SQ, hSQ⟩ : ∃ x, sq + ((ys.length : Nat) : Int) = x := ⟨_, rfl⟩
      rw [hSQ] at c4
      have hsb : SQ ≤ 9223372036854775807 := by omega
      have hs0 : 1 ≤ SQ := by omega
      have HI := Lib.hid hI
      have HX := Lib.hid hx
      have HSQ := Lib.hid hSQ
      have HC3 := Lib.hid c3
      clear hI hx hSQ
      by_cases hU : U < cn
      · obtain ⟨l, hl⟩ : ∃ l, col F cn U SQ cn 0 = l := ⟨_, rfl⟩
        have HL := Lib.hid hl
        clear hl
        go_wp2
        rename_i K1 hK1
        refine wp_midloop (I := (fun a' w' => ∃ (u20 u21 u22 u23 u24 u25 u26 u34 u35 u36 u37 u38 u39 u40 u41 u42 u43 u44 u45 u46 u47 u48 u49 u50 u51 u52 u53 u54 u55 u56 u57 u58 u59 u60 u61 u62 u63 u64 u65 u66 u67 u68 u69 u70 u71 u72 u73 u74 u75 u76 u77 u78 u79 u80 u81 u82 u83 u84 u85 u86 u87 u88 u89 u90 u91 u92 u93 u94 u95 u96 u97 u98 u99 u100 u101 u102 u103 u104 u105 u106 u107 u108 u109 u110 u111 u112 u113 u114 u115 u116 u117 u118 u119 u120 u121 u122 u123 u124 u125 u126 u127 u128 u129 u130 u131 z : Value), Sat E w' (row 23 5 z l.length (pcs l) :: isMr (q + 1) ⟨fr, cn, po, U, sq + ys.length, ep⟩ :: isRef b D :: row 9 1 v ys.length (sects (ys.map joined)) :: isMr q noRg :: L) ∧ a' = ⟨#[.pointer (some ⟨b, 0, none⟩), .int .i64 (fr : Int), .int .i64 (cn : Int), .int .i64 (po : Int), .int .i64 sq, .int .i64 si, .int .i64 ep, undef, undef, undef, undef, undef, undef, undef, .pointer (some ⟨q, 0, none⟩), .slice none 0 0, .pointer (some ⟨q + 1, 0, none⟩), v, .int .i64 least, z, u20, u21, u22, u23, u24, u25, u26, .int .i64 (fr : Int), .int .i64 (cn : Int), .int .i64 (po : Int), .int .i64 sq, .int .i64 ep, .agg #[.int .i64 (fr : Int), .int .i64 (cn : Int), .int .i64 (po : Int), .int .i64 0, .int .i64 sq, .int .i64 ep], .int .i64 si, u34, u35, u36, u37, u38, u39, u40, u41, u42, u43, u44, u45, u46, u47, u48, u49, u50, u51, u52, u53, u54, u55, u56, u57, u58, u59, u60, u61, u62, u63, u64, u65, u66, u67, u68, u69, u70, u71, u72, u73, u74, u75, u76, u77, u78, u79, u80, u81, u82, u83, u84, u85, u86, u87, u88, u89, u90, u91, u92, u93, u94, u95, u96, u97, u98, u99, u100, u101, u102, u103, u104, u105, u106, u107, u108, u109, u110, u111, u112, u113, u114, u115, u116, u117, u118, u119, u120, u121, u122, u123, u124, u125, u126, u127, u128, u129, u130, u131, undef, undef, undef, undef, undef, undef, undef, undef, undef], []⟩)) ?_ ?_
        · clear hK1
          go_loopw [19, 20] (fun z i wr => ∃ (P : List Pc), colSt F cn U SQ P ∧ i = .int .i64 P.length ∧
            Sat E wr (row 23 5 z P.length (pcs P) :: isMr (q + 1) ⟨fr, cn, po, U, sq + ys.length, ep⟩ :: isRef b D :: row 9 1 v ys.length (sects (ys.map joined)) :: isMr q noRg :: L)) (fun _ i _ => cn - (intOf i).toNat)
          case atStart => exact ⟨[], colSt_nil, rfl, HX.out.rowNil _ _⟩
          case round =>
            obtain ⟨P, hP, rfl, hy⟩ := hrel
            clear c0 c1 c2 c3 c4 c5
            obtain ⟨c0, c1, c2, c3, c4, c5⟩ := mr6 hy.p1
            dsimp only at c0 c1 c2 c3 c4 c5
            rw [HSQ.out] at c4
            obtain ⟨n, hn⟩ : ∃ n, P.length = n := ⟨_, rfl⟩
            have hnC : n ≤ cn := by rw [← hn]; exact hP.1
            have HP := Lib.hid hP
            have HY := Lib.hid hy
            have HN := Lib.hid hn
            rw [hn]
            clear hP hy hn HX
            by_cases hlt : U + n < cn
            · have hsec := HSEC.out (U + n)
              have hkb := HKB.out (U + n)
              obtain ⟨J, hJ⟩ : ∃ J, K (U + n) = J := ⟨_, rfl⟩
              obtain ⟨T1, hT1⟩ : ∃ s, S (U + n) = s := ⟨_, rfl⟩
              have hrd := HRD.out (U + n)
              have hget := HGET.out (U + n)
              have hf := HF.out (U + n)
              rw [hJ] at hsec hrd hkb
              rw [hT1] at hrd hget hf
              have hw : wrap64 ((fr : Int) + ((po : Int) + (U : Int) + (n : Int)) % (cn : Int)) = (J : Int) := by
                rw [show (po : Int) + (U : Int) + (n : Int) = (po : Int) + ((U + n : Nat) : Int) from by push_cast; omega, hsec]
                unfold wrap64; omega
              have HRD1 := Lib.hid hrd
              have HGET1 := Lib.hid hget
              have HW := Lib.hid hw
              clear hrd hget hJ hT1 hsec hw
              cases hg : getPc T1 with
              | none =>
                obtain ⟨e1, -, e3⟩ := getPc_no hg
                have E1 := Lib.hid e1
                have E3 := Lib.hid e3
                have HFG := Lib.hid (hf.trans hg)
                clear hf hg e1 e3
                have HLE := Lib.hid (HL.out.symm.trans (colSt_none HP.out (by rw [HN.out]; exact HFG.out)))
                go_wp2_with (first
                  | (go_at_call 70; rw [HW.out]; refine (HRD1.out _ _ HY.out.p2).mono ?_; rintro e w1 ⟨rfl, hx1⟩; have HX1 := Lib.hid hx1; clear hx1)
                  | (go_at_call 16; refine (HGET1.out _ _ HX1.out).mono ?_; rintro e w3 ⟨rfl, hx3⟩; rw [E1.out, E3.out]; obtain ⟨h, hh⟩ : ∃ h, w3.heap.size = h := ⟨_, rfl⟩; have hx3 := zpq hx3; rw [hh] at hx3; have HX3 := Lib.hid hx3; clear hx3)
                  | (with_reducible refine wpList_store_pc HX3.out noPc ?_ ?_; exact ⟨rfl, _, _, rfl, rfl, rfl⟩; intro w4 hx4; have HX4 := Lib.hid hx4; clear hx4))
                (repeat apply Exists.intro)
                refine ⟨?_, rfl⟩
                rw [HLE.out]
                exact HX4.out.tail.p2.p2.p2.p2.p2
              | some p =>
                obtain ⟨e1, -, e3⟩ := getPc_yes hg
                have hok := (getPc_some hg).2.2.1
                have hbd := okPc_bounds hok
                have E1 := Lib.hid e1
                have E3 := Lib.hid e3
                have HOKP := Lib.hid hok
                have HFG := Lib.hid (hf.trans hg)
                clear hf hg e1 e3 hok
                obtain ⟨p0, p1, p2, p3, p4⟩ := p
                dsimp only at hbd
                by_cases h1 : p2 = n
                · subst h1
                  by_cases h2 : p1 = SQ
                  · have hn2 : (⟨p0, p1, (n : Int), p3, p4⟩ : Pc).part = P.length ∧ (⟨p0, p1, (n : Int), p3, p4⟩ : Pc).seq = SQ := ⟨by rw [HN.out], h2⟩
                    have HN2 := Lib.hid hn2
                    clear hn2
                    subst h2
                    have happ : pcs (P ++ [⟨p0, p1, (n : Int), p3, p4⟩]) = pcs P ++ [.int .i64 p0, .int .i64 p1, .int .i64 (n : Int), .int .i64 p3, .string p4] := by simp [pcs, Pc.cells]
                    have hapl : (P ++ [(⟨p0, p1, (n : Int), p3, p4⟩ : Pc)]).length = P.length + 1 := by rw [List.length_append]; rfl
                    have HAPP := Lib.hid happ
                    have HAPL := Lib.hid hapl
                    clear happ hapl
                    have hpl : P.length ≤ 1000000 := by rw [HN.out]; omega
                    by_cases h3 : p3 - 1 = (n : Int)
                    · have HLE := Lib.hid (HL.out.symm.trans (colSt_last HP.out (by rw [HN.out]; exact hlt) (by rw [HN.out]; exact HFG.out) HN2.out h3.symm))
                      go_wp2_with (first
                        | (go_at_call 70; rw [HW.out]; refine (HRD1.out _ _ HY.out.p2).mono ?_; rintro e w1 ⟨rfl, hx1⟩; have HX1 := Lib.hid hx1; clear hx1)
                        | (go_at_call 16; refine (HGET1.out _ _ HX1.out).mono ?_; rintro e w3 ⟨rfl, hx3⟩; rw [E1.out, E3.out]; obtain ⟨h, hh⟩ : ∃ h, w3.heap.size = h := ⟨_, rfl⟩; have hx3 := zpq hx3; rw [hh] at hx3; have HX3 := Lib.hid hx3; clear hx3)
                        | (with_reducible refine wpList_store_pc HX3.out (⟨p0, p1, (n : Int), p3, p4⟩ : Pc) ?_ ?_; exact ⟨rfl, _, _, rfl, rfl, rfl⟩; intro w4 hx4; obtain ⟨d0, d1, d2, d3, d4⟩ := pc5 (p := ⟨p0, p1, (n : Int), p3, p4⟩) hx4; dsimp only at d0 d1 d2 d3 d4; obtain ⟨-, -, -, -, g4, -⟩ := mr6 hx4.p3; dsimp only at g4; rw [HSQ.out] at g4; have HX4 := Lib.hid hx4; clear hx4)
                        | (at_builtin; refine wpList_app1 rfl _ _ 25 rfl HX4.out.p2 48 (.agg #[.int .i64 0, .int .i64 0, .int .i64 0, .int .i64 0, .string ByteArray.empty]) (by kernel_rfl) Tryz.underlying25 rfl rfl [.int .i64 p0, .int .i64 p1, .int .i64 (n : Int), .int .i64 p3, .string p4] rfl rfl (by simp [Value.oneCell']) (by omega) (by omega) ?_; intro v' w5 hs5; clear d0 d1 d2 d3 d4; have hs6 := hs5.p1; obtain ⟨d0, d1, d2, d3, d4⟩ := pc5 (p := ⟨p0, p1, (n : Int), p3, p4⟩) hs6; dsimp only at d0 d1 d2 d3 d4; clear g4; have HX5 := Lib.hid hs5; clear hs5 hs6))
                      (repeat apply Exists.intro)
                      refine ⟨?_, rfl⟩
                      rw [HLE.out]
                      rw [HAPP.out, HAPL.out]; exact HX5.out.p1.tail.p1.p2.p2
                    · have hcs := colSt_more HP.out (by rw [HN.out]; exact hlt) HOKP.out (by rw [HN.out]; exact HFG.out) HN2.out (fun hh => h3 hh.symm)
                      have HCS := Lib.hid hcs
                      clear hcs
                      go_wp2_with (first
                        | (go_at_call 70; rw [HW.out]; refine (HRD1.out _ _ HY.out.p2).mono ?_; rintro e w1 ⟨rfl, hx1⟩; have HX1 := Lib.hid hx1; clear hx1)
                        | (go_at_call 16; refine (HGET1.out _ _ HX1.out).mono ?_; rintro e w3 ⟨rfl, hx3⟩; rw [E1.out, E3.out]; obtain ⟨h, hh⟩ : ∃ h, w3.heap.size = h := ⟨_, rfl⟩; have hx3 := zpq hx3; rw [hh] at hx3; have HX3 := Lib.hid hx3; clear hx3)
                        | (with_reducible refine wpList_store_pc HX3.out (⟨p0, p1, (n : Int), p3, p4⟩ : Pc) ?_ ?_; exact ⟨rfl, _, _, rfl, rfl, rfl⟩; intro w4 hx4; obtain ⟨d0, d1, d2, d3, d4⟩ := pc5 (p := ⟨p0, p1, (n : Int), p3, p4⟩) hx4; dsimp only at d0 d1 d2 d3 d4; obtain ⟨-, -, -, -, g4, -⟩ := mr6 hx4.p3; dsimp only at g4; rw [HSQ.out] at g4; have HX4 := Lib.hid hx4; clear hx4)
                        | (at_builtin; refine wpList_app1 rfl _ _ 25 rfl HX4.out.p2 48 (.agg #[.int .i64 0, .int .i64 0, .int .i64 0, .int .i64 0, .string ByteArray.empty]) (by kernel_rfl) Tryz.underlying25 rfl rfl [.int .i64 p0, .int .i64 p1, .int .i64 (n : Int), .int .i64 p3, .string p4] rfl rfl (by simp [Value.oneCell']) (by omega) (by omega) ?_; intro v' w5 hs5; clear d0 d1 d2 d3 d4; have hs6 := hs5.p1; obtain ⟨d0, d1, d2, d3, d4⟩ := pc5 (p := ⟨p0, p1, (n : Int), p3, p4⟩) hs6; dsimp only at d0 d1 d2 d3 d4; clear g4; have HX5 := Lib.hid hs5; clear hs5 hs6))
                      refine ⟨⟨_, HCS.out, by rw [HAPL.out, HN.out]; go_num, ?_⟩, by simp [intOf]; omega⟩
                      rw [HAPP.out, HAPL.out]
                      exact HX5.out.p1.tail.p1.p2.p2
                  · have HLE := Lib.hid (HL.out.symm.trans (colSt_other HP.out (by rw [HN.out]; exact HFG.out) (fun hh => h2 hh.2)))
                    go_wp2_with (first
                      | (go_at_call 70; rw [HW.out]; refine (HRD1.out _ _ HY.out.p2).mono ?_; rintro e w1 ⟨rfl, hx1⟩; have HX1 := Lib.hid hx1; clear hx1)
                      | (go_at_call 16; refine (HGET1.out _ _ HX1.out).mono ?_; rintro e w3 ⟨rfl, hx3⟩; rw [E1.out, E3.out]; obtain ⟨h, hh⟩ : ∃ h, w3.heap.size = h := ⟨_, rfl⟩; have hx3 := zpq hx3; rw [hh] at hx3; have HX3 := Lib.hid hx3; clear hx3)
                      | (with_reducible refine wpList_store_pc HX3.out (⟨p0, p1, (n : Int), p3, p4⟩ : Pc) ?_ ?_; exact ⟨rfl, _, _, rfl, rfl, rfl⟩; intro w4 hx4; obtain ⟨d0, d1, d2, d3, d4⟩ := pc5 (p := ⟨p0, p1, (n : Int), p3, p4⟩) hx4; dsimp only at d0 d1 d2 d3 d4; obtain ⟨-, -, -, -, g4, -⟩ := mr6 hx4.p3; dsimp only at g4; rw [HSQ.out] at g4; have HX4 := Lib.hid hx4; clear hx4))
                    (repeat apply Exists.intro)
                    refine ⟨?_, rfl⟩
                    rw [HLE.out]
                    exact HX4.out.tail.p2.p2.p2.p2.p2
                · have HLE := Lib.hid (HL.out.symm.trans (colSt_other HP.out (by rw [HN.out]; exact HFG.out) (fun hh => h1 (by have h3 := hh.1; rw [HN.out] at h3; exact h3))))
                  go_wp2_with (first
                    | (go_at_call 70; rw [HW.out]; refine (HRD1.out _ _ HY.out.p2).mono ?_; rintro e w1 ⟨rfl, hx1⟩; have HX1 := Lib.hid hx1; clear hx1)
                    | (go_at_call 16; refine (HGET1.out _ _ HX1.out).mono ?_; rintro e w3 ⟨rfl, hx3⟩; rw [E1.out, E3.out]; obtain ⟨h, hh⟩ : ∃ h, w3.heap.size = h := ⟨_, rfl⟩; have hx3 := zpq hx3; rw [hh] at hx3; have HX3 := Lib.hid hx3; clear hx3)
                    | (with_reducible refine wpList_store_pc HX3.out (⟨p0, p1, p2, p3, p4⟩ : Pc) ?_ ?_; exact ⟨rfl, _, _, rfl, rfl, rfl⟩; intro w4 hx4; obtain ⟨d0, d1, d2, d3, d4⟩ := pc5 (p := ⟨p0, p1, p2, p3, p4⟩) hx4; dsimp only at d0 d1 d2 d3 d4; obtain ⟨-, -, -, -, g4, -⟩ := mr6 hx4.p3; dsimp only at g4; rw [HSQ.out] at g4; have HX4 := Lib.hid hx4; clear hx4))
                  (repeat apply Exists.intro)
                  refine ⟨?_, rfl⟩
                  rw [HLE.out]
                  exact HX4.out.tail.p2.p2.p2.p2.p2
            · have HLE := Lib.hid (HL.out.symm.trans (colSt_end HP.out (by rw [HN.out]; omega)))
              go_wp2
              (repeat apply Exists.intro)
              refine ⟨?_, rfl⟩
              rw [HLE.out]
              exact HY.out
        · intro a6 w6 hI
          obtain ⟨u20, hI⟩ := hI
          obtain ⟨u21, hI⟩ := hI
          obtain ⟨u22, hI⟩ := hI
          obtain ⟨u23, hI⟩ := hI
          obtain ⟨u24, hI⟩ := hI
          obtain ⟨u25, hI⟩ := hI
          obtain ⟨u26, hI⟩ := hI
          obtain ⟨u34, hI⟩ := hI
          obtain ⟨u35, hI⟩ := hI
          obtain ⟨u36, hI⟩ := hI
          obtain ⟨u37, hI⟩ := hI
          obtain ⟨u38, hI⟩ := hI
          obtain ⟨u39, hI⟩ := hI
          obtain ⟨u40, hI⟩ := hI
          obtain ⟨u41, hI⟩ := hI
          obtain ⟨u42, hI⟩ := hI
          obtain ⟨u43, hI⟩ := hI
          obtain ⟨u44, hI⟩ := hI
          obtain ⟨u45, hI⟩ := hI
          obtain ⟨u46, hI⟩ := hI
          obtain ⟨u47, hI⟩ := hI
          obtain ⟨u48, hI⟩ := hI
          obtain ⟨u49, hI⟩ := hI
          obtain ⟨u50, hI⟩ := hI
          obtain ⟨u51, hI⟩ := hI
          obtain ⟨u52, hI⟩ := hI
          obtain ⟨u53, hI⟩ := hI
          obtain ⟨u54, hI⟩ := hI
          obtain ⟨u55, hI⟩ := hI
          obtain ⟨u56, hI⟩ := hI
          obtain ⟨u57, hI⟩ := hI
          obtain ⟨u58, hI⟩ := hI
          obtain ⟨u59, hI⟩ := hI
          obtain ⟨u60, hI⟩ := hI
          obtain ⟨u61, hI⟩ := hI
          obtain ⟨u62, hI⟩ := hI
          obtain ⟨u63, hI⟩ := hI
          obtain ⟨u64, hI⟩ := hI
          obtain ⟨u65, hI⟩ := hI
          obtain ⟨u66, hI⟩ := hI
          obtain ⟨u67, hI⟩ := hI
          obtain ⟨u68, hI⟩ := hI
          obtain ⟨u69, hI⟩ := hI
          obtain ⟨u70, hI⟩ := hI
          obtain ⟨u71, hI⟩ := hI
          obtain ⟨u72, hI⟩ := hI
          obtain ⟨u73, hI⟩ := hI
          obtain ⟨u74, hI⟩ := hI
          obtain ⟨u75, hI⟩ := hI
          obtain ⟨u76, hI⟩ := hI
          obtain ⟨u77, hI⟩ := hI
          obtain ⟨u78, hI⟩ := hI
          obtain ⟨u79, hI⟩ := hI
          obtain ⟨u80, hI⟩ := hI
          obtain ⟨u81, hI⟩ := hI
          obtain ⟨u82, hI⟩ := hI
          obtain ⟨u83, hI⟩ := hI
          obtain ⟨u84, hI⟩ := hI
          obtain ⟨u85, hI⟩ := hI
          obtain ⟨u86, hI⟩ := hI
          obtain ⟨u87, hI⟩ := hI
          obtain ⟨u88, hI⟩ := hI
          obtain ⟨u89, hI⟩ := hI
          obtain ⟨u90, hI⟩ := hI
          obtain ⟨u91, hI⟩ := hI
          obtain ⟨u92, hI⟩ := hI
          obtain ⟨u93, hI⟩ := hI
          obtain ⟨u94, hI⟩ := hI
          obtain ⟨u95, hI⟩ := hI
          obtain ⟨u96, hI⟩ := hI
          obtain ⟨u97, hI⟩ := hI
          obtain ⟨u98, hI⟩ := hI
          obtain ⟨u99, hI⟩ := hI
          obtain ⟨u100, hI⟩ := hI
          obtain ⟨u101, hI⟩ := hI
          obtain ⟨u102, hI⟩ := hI
          obtain ⟨u103, hI⟩ := hI
          obtain ⟨u104, hI⟩ := hI
          obtain ⟨u105, hI⟩ := hI
          obtain ⟨u106, hI⟩ := hI
          obtain ⟨u107, hI⟩ := hI
          obtain ⟨u108, hI⟩ := hI
          obtain ⟨u109, hI⟩ := hI
          obtain ⟨u110, hI⟩ := hI
          obtain ⟨u111, hI⟩ := hI
          obtain ⟨u112, hI⟩ := hI
          obtain ⟨u113, hI⟩ := hI
          obtain ⟨u114, hI⟩ := hI
          obtain ⟨u115, hI⟩ := hI
          obtain ⟨u116, hI⟩ := hI
          obtain ⟨u117, hI⟩ := hI
          obtain ⟨u118, hI⟩ := hI
          obtain ⟨u119, hI⟩ := hI
          obtain ⟨u120, hI⟩ := hI
          obtain ⟨u121, hI⟩ := hI
          obtain ⟨u122, hI⟩ := hI
          obtain ⟨u123, hI⟩ := hI
          obtain ⟨u124, hI⟩ := hI
          obtain ⟨u125, hI⟩ := hI
          obtain ⟨u126, hI⟩ := hI
          obtain ⟨u127, hI⟩ := hI
          obtain ⟨u128, hI⟩ := hI
          obtain ⟨u129, hI⟩ := hI
          obtain ⟨u130, hI⟩ := hI
          obtain ⟨u131, hI⟩ := hI
          obtain ⟨z, hI⟩ := hI
          obtain ⟨hy, ha⟩ := hI
          subst ha
          refine hK1 _ _ ?_
          clear hK1 HX
          have hll := col_len (f := F) (C := cn) (b := U) (seq := SQ) (k := cn)
          have hld := HDATA.out U SQ
          rw [HL.out] at hll hld
          have hlb : l.length ≤ 1000000 := by omega
          obtain ⟨az, cz, rfl, -⟩ := rowSlice hy
          have hld : ∀ p ∈ l, p.data.size ≤ 1000 := fun p hp => by have := hld p hp; omega
          have HLD := Lib.hid hld
          have HY := Lib.hid hy
          clear hld hy
          clear c0 c1 c2 c3 c4 c5
          have hcol : col F cn U (sq + ((ys.length : Nat) : Int)) cn 0 = l := by rw [HSQ.out]; exact HL.out
          have HCOL := Lib.hid hcol
          clear hcol
          cases hwh : whole l with
          | false =>
            have HWH := Lib.hid hwh
            clear hwh
            go_wp2_with (go_at_call 71; refine (refJoin_ok (c := cz) (row_seesP HY.out) (by omega) HLD.out).mono ?_; rintro e w7 ⟨rfl, hb⟩; have hx7 := HY.out.ofBelow hb; rw [HWH.out]; clear hb; have HX7 := Lib.hid hx7; clear hx7)
            have hT := HT0.out.trans (HI.out.stop (stands_bad HCOL.out HWH.out))
            have e1 : ys.length = TL := by rw [← hT]; exact HTL.out
            have e2 : U = UT := by rw [← HI.out.u, ← hT]; exact HUT.out
            (repeat apply Exists.intro)
            refine ⟨?_, rfl⟩
            rw [← e1, ← e2, hT]
            exact HX7.out.tail
          | true =>
            have hl0 := (goods_all hwh).1
            obtain ⟨p, hp⟩ : ∃ p, l[0]? = some p := ⟨_, List.getElem?_eq_getElem hl0⟩
            obtain ⟨g, cg, hv, -⟩ := row_first HY.out hp
            cases hv
            have hep := epoch_get hp
            have hll2 : U + l.length ≤ cn := by omega
            have HWH := Lib.hid hwh
            have HP := Lib.hid hp
            clear hwh hp hll
            obtain ⟨e0, he0⟩ : ∃ x, p.epoch = x := ⟨_, rfl⟩
            rw [he0] at hep
            by_cases h4 : e0 < least
            · go_wp2_with (go_at_call 71; refine (refJoin_ok (c := cz) (row_seesP HY.out) (by omega) HLD.out).mono ?_; rintro e w7 ⟨rfl, hb⟩; have hx7 := HY.out.ofBelow hb; rw [HWH.out]; obtain ⟨g2, c2, hv, k0⟩ := row_first hx7 HP.out; cases hv; rw [he0] at k0; clear hb; have HX7 := Lib.hid hx7; clear hx7)
              have hT := HT0.out.trans (HI.out.stop (stands_old HCOL.out HWH.out (.inl (by rw [hep]; exact h4))))
              have e1 : ys.length = TL := by rw [← hT]; exact HTL.out
              have e2 : U = UT := by rw [← HI.out.u, ← hT]; exact HUT.out
              (repeat apply Exists.intro)
              refine ⟨?_, rfl⟩
              rw [← e1, ← e2, hT]
              exact HX7.out.tail
            · by_cases h5 : ep ≤ e0
              · go_wp2_with (go_at_call 71; refine (refJoin_ok (c := cz) (row_seesP HY.out) (by omega) HLD.out).mono ?_; rintro e w7 ⟨rfl, hb⟩; have hx7 := HY.out.ofBelow hb; rw [HWH.out]; obtain ⟨g2, c2, hv, k0⟩ := row_first hx7 HP.out; cases hv; rw [he0] at k0; clear hb; have HX7 := Lib.hid hx7; clear hx7)
                have hT := HT0.out.trans (HI.out.stop (stands_old HCOL.out HWH.out (.inr (by rw [hep]; exact h5))))
                have e1 : ys.length = TL := by rw [← hT]; exact HTL.out
                have e2 : U = UT := by rw [← HI.out.u, ← hT]; exact HUT.out
                (repeat apply Exists.intro)
                refine ⟨?_, rfl⟩
                rw [← e1, ← e2, hT]
                exact HX7.out.tail
              · have hnx := HI.out.next HCOL.out HWH.out (by rw [hep]; omega) hU (by omega)
                rw [hep] at hnx
                have hgr := hnx.grow
                rw [← HT0.out, HTL.out, List.length_append, List.length_singleton] at hgr
                have HNX := Lib.hid hnx
                clear hnx
                have hyb : ys.length ≤ 1000000 := by omega
                have hsq2 : SQ + 1 ≤ 9223372036854775807 := by have := HSQ.out; push_cast at hgr; omega
                go_wp2_with (first
                  | (go_at_call 71; refine (refJoin_ok (c := cz) (row_seesP HY.out) (by omega) HLD.out).mono ?_; rintro e w7 ⟨rfl, hb⟩; have hx7 := HY.out.ofBelow hb; rw [HWH.out]; obtain ⟨g2, c2, hv, k0⟩ := row_first hx7 HP.out; cases hv; rw [he0] at k0; clear hb; have HX7 := Lib.hid hx7; clear hx7)
                  | (at_builtin; go_loud (refine wpList_appT rfl _ _ rfl HX7.out.p3 (joined l) rfl rfl (by omega) ?_; intro v4 w4 hx4; clear k0; obtain ⟨g3, c3, hv, k0⟩ := row_first hx4.p1 HP.out; cases hv; rw [he0] at k0; obtain ⟨-, -, -, k3, k4, -⟩ := mr6 hx4.p2; dsimp only at k3 k4; rw [HSQ.out] at k4; have f3 := frozen_blk hx4.p2.at 3; have f4 := frozen_blk hx4.p2.at 4; have HX4 := Lib.hid hx4; clear hx4)))
                have hq4 : SQ + 1 = sq + (((ys ++ [l]).length : Nat) : Int) := by rw [← HSQ.out, List.length_append, List.length_singleton]; push_cast; omega
                have ht4 : sects (ys.map joined) ++ [Value.string (joined l)] = sects ((ys ++ [l]).map joined) := by simp [sects]
                have hl4 : ys.length + 1 = (ys ++ [l]).length := by simp
                have hfin := ((HX4.out.p2.setCell 3 (.int .i64 ((U : Int) + (l.length : Int)))).setCell 4 (.int .i64 (SQ + 1))).head (A' := isMr (q + 1) ⟨fr, cn, po, U + l.length, sq + (((ys ++ [l]).length : Nat) : Int), ep⟩) (fun kk hk => by rw [← hq4]; exact hk)
                rw [ht4, hl4] at hfin
                have hm4 := (mr6 hfin).2.2.2.1
                dsimp only at hm4
                refine ⟨⟨ys ++ [l], U + l.length, e0, v4, HNX.out, rfl, rfl, hfin.p2.tail.p2.p1⟩, ?_⟩
                rw [hm4, HC3.out]
                simp [intOf]
                omega
      · go_wp2
        have hT := HT0.out.trans (HI.out.stop (stands_full (by omega)))
        have e1 : ys.length = TL := by rw [← hT]; exact HTL.out
        have e2 : U = UT := by rw [← HI.out.u, ← hT]; exact HUT.out
        (repeat apply Exists.intro)
        refine ⟨?_, ?sec⟩
        case sec => repeat' (first | rfl | apply And.intro)
        rw [← e1, ← e2, hT]
        exact HX.out
  · clear HX2
    intro a6 w6 hI
    obtain ⟨u7, hI⟩ := hI
    obtain ⟨u8, hI⟩ := hI
    obtain ⟨u9, hI⟩ := hI
    obtain ⟨u10, hI⟩ := hI
    obtain ⟨u11, hI⟩ := hI
    obtain ⟨u12, hI⟩ := hI
    obtain ⟨u13, hI⟩ := hI
    obtain ⟨u18, hI⟩ := hI
    obtain ⟨u19, hI⟩ := hI
    obtain ⟨u20, hI⟩ := hI
    obtain ⟨u21, hI⟩ := hI
    obtain ⟨u22, hI⟩ := hI
    obtain ⟨u23, hI⟩ := hI
    obtain ⟨u24, hI⟩ := hI
    obtain ⟨u25, hI⟩ := hI
    obtain ⟨u26, hI⟩ := hI
    obtain ⟨u27, hI⟩ := hI
    obtain ⟨u28, hI⟩ := hI
    obtain ⟨u29, hI⟩ := hI
    obtain ⟨u30, hI⟩ := hI
    obtain ⟨u31, hI⟩ := hI
    obtain ⟨u32, hI⟩ := hI
    obtain ⟨u33, hI⟩ := hI
    obtain ⟨u34, hI⟩ := hI
    obtain ⟨u35, hI⟩ := hI
    obtain ⟨u36, hI⟩ := hI
    obtain ⟨u37, hI⟩ := hI
    obtain ⟨u38, hI⟩ := hI
    obtain ⟨u39, hI⟩ := hI
    obtain ⟨u40, hI⟩ := hI
    obtain ⟨u41, hI⟩ := hI
    obtain ⟨u42, hI⟩ := hI
    obtain ⟨u43, hI⟩ := hI
    obtain ⟨u44, hI⟩ := hI
    obtain ⟨u45, hI⟩ := hI
    obtain ⟨u46, hI⟩ := hI
    obtain ⟨u47, hI⟩ := hI
    obtain ⟨u48, hI⟩ := hI
    obtain ⟨u49, hI⟩ := hI
    obtain ⟨u50, hI⟩ := hI
    obtain ⟨u51, hI⟩ := hI
    obtain ⟨u52, hI⟩ := hI
    obtain ⟨u53, hI⟩ := hI
    obtain ⟨u54, hI⟩ := hI
    obtain ⟨u55, hI⟩ := hI
    obtain ⟨u56, hI⟩ := hI
    obtain ⟨u57, hI⟩ := hI
    obtain ⟨u58, hI⟩ := hI
    obtain ⟨u59, hI⟩ := hI
    obtain ⟨u60, hI⟩ := hI
    obtain ⟨u61, hI⟩ := hI
    obtain ⟨u62, hI⟩ := hI
    obtain ⟨u63, hI⟩ := hI
    obtain ⟨u64, hI⟩ := hI
    obtain ⟨u65, hI⟩ := hI
    obtain ⟨u66, hI⟩ := hI
    obtain ⟨u67, hI⟩ := hI
    obtain ⟨u68, hI⟩ := hI
    obtain ⟨u69, hI⟩ := hI
    obtain ⟨u70, hI⟩ := hI
    obtain ⟨u71, hI⟩ := hI
    obtain ⟨u72, hI⟩ := hI
    obtain ⟨u73, hI⟩ := hI
    obtain ⟨u74, hI⟩ := hI
    obtain ⟨u75, hI⟩ := hI
    obtain ⟨u76, hI⟩ := hI
    obtain ⟨u77, hI⟩ := hI
    obtain ⟨u78, hI⟩ := hI
    obtain ⟨u79, hI⟩ := hI
    obtain ⟨u80, hI⟩ := hI
    obtain ⟨u81, hI⟩ := hI
    obtain ⟨u82, hI⟩ := hI
    obtain ⟨u83, hI⟩ := hI
    obtain ⟨u84, hI⟩ := hI
    obtain ⟨u85, hI⟩ := hI
    obtain ⟨u86, hI⟩ := hI
    obtain ⟨u87, hI⟩ := hI
    obtain ⟨u88, hI⟩ := hI
    obtain ⟨u89, hI⟩ := hI
    obtain ⟨u90, hI⟩ := hI
    obtain ⟨u91, hI⟩ := hI
    obtain ⟨u92, hI⟩ := hI
    obtain ⟨u93, hI⟩ := hI
    obtain ⟨u94, hI⟩ := hI
    obtain ⟨u95, hI⟩ := hI
    obtain ⟨u96, hI⟩ := hI
    obtain ⟨u97, hI⟩ := hI
    obtain ⟨u98, hI⟩ := hI
    obtain ⟨u99, hI⟩ := hI
    obtain ⟨u100, hI⟩ := hI
    obtain ⟨u101, hI⟩ := hI
    obtain ⟨u102, hI⟩ := hI
    obtain ⟨u103, hI⟩ := hI
    obtain ⟨u104, hI⟩ := hI
    obtain ⟨u105, hI⟩ := hI
    obtain ⟨u106, hI⟩ := hI
    obtain ⟨u107, hI⟩ := hI
    obtain ⟨u108, hI⟩ := hI
    obtain ⟨u109, hI⟩ := hI
    obtain ⟨u110, hI⟩ := hI
    obtain ⟨u111, hI⟩ := hI
    obtain ⟨u112, hI⟩ := hI
    obtain ⟨u113, hI⟩ := hI
    obtain ⟨u114, hI⟩ := hI
    obtain ⟨u115, hI⟩ := hI
    obtain ⟨u116, hI⟩ := hI
    obtain ⟨u117, hI⟩ := hI
    obtain ⟨u118, hI⟩ := hI
    obtain ⟨u119, hI⟩ := hI
    obtain ⟨u120, hI⟩ := hI
    obtain ⟨u121, hI⟩ := hI
    obtain ⟨u122, hI⟩ := hI
    obtain ⟨u123, hI⟩ := hI
    obtain ⟨u124, hI⟩ := hI
    obtain ⟨u125, hI⟩ := hI
    obtain ⟨u126, hI⟩ := hI
    obtain ⟨u127, hI⟩ := hI
    obtain ⟨u128, hI⟩ := hI
    obtain ⟨u129, hI⟩ := hI
    obtain ⟨u130, hI⟩ := hI
    obtain ⟨u131, hI⟩ := hI
    obtain ⟨u132, hI⟩ := hI
    obtain ⟨u133, hI⟩ := hI
    obtain ⟨u134, hI⟩ := hI
    obtain ⟨u135, hI⟩ := hI
    obtain ⟨u136, hI⟩ := hI
    obtain ⟨u137, hI⟩ := hI
    obtain ⟨u138, hI⟩ := hI
    obtain ⟨u139, hI⟩ := hI
    obtain ⟨u140, hI⟩ := hI
    obtain ⟨v, hI⟩ := hI
    obtain ⟨hx, ha⟩ := hI
    subst ha
    refine hK0 _ _ ?_
    clear hK0
    obtain ⟨c0, c1, c2, c3, c4, c5⟩ := mr6 hx
    dsimp only at c0 c1 c2 c3 c4 c5
    have f2 := frozen_blk hx.at 2
    have hcast : (((po + UT) % cn : Nat) : Int) = ((po : Int) + (UT : Int)) % (cn : Int) := by rw [Int.natCast_emod]; rfl
    have hx2 := (hx.setCell 2 (.int .i64 (((po : Int) + (UT : Int)) % (cn : Int)))).head (A' := isMr (q + 1) ⟨fr, cn, (po + UT) % cn, UT, sq + TL, ep⟩) (fun kk hk => by unfold isMr Rg.mr; dsimp only; rw [hcast]; exact hk)
    have HXS := Lib.hid hx2.p3
    clear hx hx2
    have hne : ¬ (cn = 0) := by omega
    rw [HM.out] at hcast HXS
    have hml : M < cn := by rw [← HM.out]; exact Nat.mod_lt _ (by omega)
    have HCA := Lib.hid hcast
    clear hcast
    go_wp2_with (refine wpList_store_mr HXS.out (⟨fr, cn, M, UT, sq + TL, ep⟩ : Rg) ⟨rfl, _, _, rfl, rfl, (by rw [← HCA.out]; rfl)⟩ ?_; intro w9 hx9; have HX9 := Lib.hid hx9; clear hx9)
    refine bodyPost_ret (v := .tuple #[.agg (⟨fr, cn, M, UT, sq + TL, ep⟩ : Rg).mr, v]) ?_ rfl ⟨v, rfl, HX9.out.tail.tail⟩
    rw [results_cell_tmp rfl]
    simp [asAddr, load_mr HX9.out, Result.andThen]
end Go.Proofs.YtmkpglabiikdeaaGreatDoor
/-
  posthouseref11.Cut in the words of ownership: the row of pieces is the caller's.
-/
namespace Go.Proofs.YtmkpglabiikdeaaGreatDoor
open Go.RowKit PH

set_option maxRecDepth 100000 in
set_option maxHeartbeats 800000 in
theorem rcutS_ok {E w : World} {L0 : List HP} (x0 : Sat E w L0) (s : ByteArray) (ep sq : Int) (hs : s.size ≤ 6400) : Calls Tryz.prog 72 #[.string s, .int .i64 ep, .int .i64 sq] w fun e w' => ∃ g cap, e = .returned (.slice (some ⟨g, 0, none⟩) (npc s.size) cap) ∧ Sat E w' (row 23 5 (.slice (some ⟨g, 0, none⟩) (npc s.size) cap) (npc s.size) (pcs (cutL s ep sq)) :: L0) := by
  obtain ⟨n, hn⟩ : ∃ n, s.size = n := ⟨_, rfl⟩
  have hpc : npc s.size ≤ 64 ∧ 1 ≤ npc s.size := by unfold npc; omega
  obtain ⟨m, hm⟩ : ∃ m, npc s.size = m := ⟨_, rfl⟩
  rw [hm] at hpc
  have HM := Lib.hid hm
  rw [hn] at hs
  have hm2 : m = max 1 ((n + 99) / 100) := by rw [← hm, hn]; rfl
  clear hm
  have HM2 := Lib.hid hm2
  by_cases hn0 : n = 0
  · have hm1 : (1 : Int) = (m : Int) := by omega
    clear hm2
    go_enter Tryz.func72, Tryz.ntmps72
    go_wp2
    rw [hm1]
    go_loopw [8, 9] (fun v i wr => ∃ k : Nat, k ≤ m ∧ i = .int .i64 k ∧ Sat E wr (row 23 5 v k (pcs ((cutL s ep sq).take k)) :: L0)) (fun _ i _ => m - (intOf i).toNat)
    case atStart => exact ⟨0, by omega, rfl, x0.rowNil _ _⟩
    case round =>
      obtain ⟨k, hk, rfl, hx⟩ := hrel
      have HX := Lib.hid hx
      clear hx
      by_cases hlt : k < m
      · have h100 : 100 * k ≤ n := by have := HM2.out; omega
        have he : s.extract (100 * k) (min 0 (100 * (k : Int) + 100)).toNat = chunk s k := by unfold chunk; rw [hn]; congr 1; omega
        have HE := Lib.hid he
        clear he
        go_wp2_with (at_builtin; refine wpList_app1 rfl _ _ 25 rfl HX.out 48 (.agg #[.int .i64 0, .int .i64 0, .int .i64 0, .int .i64 0, .string ByteArray.empty]) (by kernel_rfl) Tryz.underlying25 rfl rfl [.int .i64 ep, .int .i64 sq, .int .i64 k, .int .i64 m, .string (s.extract (100 * k) (min 0 (100 * (k : Int) + 100)).toNat)] rfl rfl (by simp [Value.oneCell']) (by omega) (by omega) ?_; intro v' w3 hs3)
        refine ⟨⟨k + 1, by omega, by go_num, ?_⟩, by simp [intOf]; omega⟩
        rw [List.take_add_one, cutL_get s ep sq (by rw [HM.out]; exact hlt), HM.out]
        rw [HE.out] at hs3
        simpa [pcs, Pc.cells] using hs3
      · have hkm : k = m := by omega
        have HKM := Lib.hid hkm
        clear hkm
        go_wp2
        go_ret
        obtain ⟨g, cap, hv, hcap, _, hg, hcs⟩ := HX.out.rowSees (by omega)
        subst hv
        have hx := HX.out
        rw [HKM.out] at hx ⊢
        rw [HM.out]
        refine ⟨g, cap, rfl, ?_⟩
        rw [List.take_of_length_le (by rw [cutL_len, HM.out]; omega)] at hx
        exact hx
  · have hq : ((n : Int) + 99) / 100 = (m : Int) := by omega
    have hmb : (((n : Int) + 99) / 100 == 0) = false := by simp; omega
    clear hm2
    go_enter Tryz.func72, Tryz.ntmps72
    go_wp2
    rw [hq]
    simp only [show ((m : Int) == 0) = false from by simp; omega]
    go_loopw [8, 9] (fun v i wr => ∃ k : Nat, k ≤ m ∧ i = .int .i64 k ∧ Sat E wr (row 23 5 v k (pcs ((cutL s ep sq).take k)) :: L0)) (fun _ i _ => m - (intOf i).toNat)
    case atStart => exact ⟨0, by omega, rfl, x0.rowNil _ _⟩
    case round =>
      obtain ⟨k, hk, rfl, hx⟩ := hrel
      have HX := Lib.hid hx
      clear hx
      by_cases hlt : k < m
      · have h100 : 100 * k ≤ n := by have := HM2.out; omega
        have he : s.extract (100 * k) (min (n : Int) (100 * (k : Int) + 100)).toNat = chunk s k := by unfold chunk; rw [hn]; congr 1; omega
        have HE := Lib.hid he
        clear he
        go_wp2_with (at_builtin; refine wpList_app1 rfl _ _ 25 rfl HX.out 48 (.agg #[.int .i64 0, .int .i64 0, .int .i64 0, .int .i64 0, .string ByteArray.empty]) (by kernel_rfl) Tryz.underlying25 rfl rfl [.int .i64 ep, .int .i64 sq, .int .i64 k, .int .i64 m, .string (s.extract (100 * k) (min (n : Int) (100 * (k : Int) + 100)).toNat)] rfl rfl (by simp [Value.oneCell']) (by omega) (by omega) ?_; intro v' w3 hs3)
        refine ⟨⟨k + 1, by omega, by go_num, ?_⟩, by simp [intOf]; omega⟩
        rw [List.take_add_one, cutL_get s ep sq (by rw [HM.out]; exact hlt), HM.out]
        rw [HE.out] at hs3
        simpa [pcs, Pc.cells] using hs3
      · have hkm : k = m := by omega
        have HKM := Lib.hid hkm
        clear hkm
        go_wp2
        go_ret
        obtain ⟨g, cap, hv, hcap, _, hg, hcs⟩ := HX.out.rowSees (by omega)
        subst hv
        have hx := HX.out
        rw [HKM.out] at hx ⊢
        rw [HM.out]
        refine ⟨g, cap, rfl, ?_⟩
        rw [List.take_of_length_le (by rw [cutL_len, HM.out]; omega)] at hx
        exact hx
end Go.Proofs.YtmkpglabiikdeaaGreatDoor
/-
  The document's journal: a record is appended, walked; Fits of a journal, walked.
-/
namespace Go.Proofs.YtmkpglabiikdeaaGreatDoor
open Go.RowKit PH
attribute [local irreducible] fld pcB pcOfB left getPc

set_option maxRecDepth 100000 in
set_option maxHeartbeats 800000 in
theorem fits_ok {E W : World} {L : List HP} {q b : Nat} {r : Rg} (x : Sat E W (isRing q b r :: L)) (s : ByteArray) (hs : s.size ≤ 6400) (h1 : r.used ≤ r.cnt) (h2 : r.cnt ≤ 1000000) :
    Calls Tryz.prog 27 #[.pointer (some ⟨q, 0, none⟩), .int .i64 s.size] W fun e w' => e = .returned (.bool (decide (npc s.size ≤ r.cnt - r.used))) ∧ Sat E w' (isRing q b r :: L) := by
  have hct := count_ok (s.size : Int) W
  have hcn : count (s.size : Int) = (npc s.size : Int) := by unfold count npc; split <;> omega
  rw [hcn] at hct
  have hn1 : 1 ≤ npc s.size := by unfold npc; omega
  have hroom := fun (w : World) (y : Sat E w (isRing q b r :: L)) => room_ok (W := w) (L := L) y (by omega) h2
  have hd : decide (npc s.size ≤ r.cnt - r.used) = decide (((npc s.size : Nat) : Int) ≤ (r.cnt : Int) - (r.used : Int)) := decide_eq_decide.2 (by omega)
  rw [hd]
  obtain ⟨n, hn⟩ : ∃ n, npc s.size = n := ⟨_, rfl⟩
  rw [hn] at hct hn1 ⊢
  obtain ⟨k, hk⟩ : ∃ k : Int, (s.size : Int) = k := ⟨_, rfl⟩
  rw [hk] at hct ⊢
  obtain ⟨m, hm⟩ : ∃ m : Int, (r.cnt : Int) - (r.used : Int) = m := ⟨_, rfl⟩
  rw [hm] at hroom ⊢
  have HCT := Lib.hid hct
  have HROOM := Lib.hid hroom
  have HX := Lib.hid x
  clear hct hroom hd hn hk hm x hcn
  go_enter Tryz.func27, Tryz.ntmps27
  go_wp2_with (first
    | (go_at_call 37; refine HCT.out.mono ?_; rintro e w1 ⟨rfl, hw⟩; subst w1)
    | (go_at_call 20; refine (HROOM.out _ HX.out).mono ?_; rintro e w2 ⟨rfl, hw2⟩; have hx2 := HX.out.drew; rw [← hw2] at hx2; have HX2 := Lib.hid hx2; clear hx2 hw2))
  go_ret
  exact ⟨rfl, HX2.out⟩

set_option maxRecDepth 100000 in
set_option maxHeartbeats 3200000 in
theorem refAppend_full {E W : World} {L : List HP} {m b : Nat} {r : Rg} {D : Dk} (x : Sat E W (isMr m r :: isRef b D :: L)) (s : ByteArray) (hs : s.size ≤ 6400) (hu : r.used ≤ r.cnt) (hc : r.cnt ≤ 1000000) (hf : r.cnt - r.used < npc s.size) :
    Calls Tryz.prog 33 #[.pointer (some ⟨m, 0, none⟩), .pointer (some ⟨b, 0, none⟩), .string s] W fun e w' => e = .returned (.bool false) ∧ Sat E w' (isMr m r :: isRef b D :: L) := by
  have hxd := x.drew
  have hcut : ∀ (w : World), Sat E w (isMr m r :: isRef b D :: L) → _ := fun w y => rcutS_ok (w := w) y s r.ep r.seq hs
  obtain ⟨-, -, -, -, c4, c5⟩ := mr6 hxd
  have hr := fun (w : World) (M : List HP) (y : Sat E w (isMr m r :: M)) => mr6 y
  have hn64 : npc s.size ≤ 64 := by unfold npc; omega
  obtain ⟨n, hnn⟩ : ∃ n, npc s.size = n := ⟨_, rfl⟩
  rw [hnn] at hcut hf hn64
  obtain ⟨l, hl⟩ : ∃ l, cutL s r.ep r.seq = l := ⟨_, rfl⟩
  rw [hl] at hcut
  obtain ⟨EP, hEP⟩ : ∃ e, r.ep = e := ⟨_, rfl⟩
  obtain ⟨SQ, hSQ⟩ : ∃ e, r.seq = e := ⟨_, rfl⟩
  obtain ⟨CN, hCN⟩ : ∃ e, r.cnt = e := ⟨_, rfl⟩
  obtain ⟨US, hUS⟩ : ∃ e, r.used = e := ⟨_, rfl⟩
  rw [hEP, hSQ] at hcut
  rw [hEP] at c5
  rw [hSQ] at c4
  rw [hCN, hUS] at hf hu hr
  rw [hCN] at hc
  have hlt : (CN : Int) - (US : Int) < (n : Int) := by omega
  have HX := Lib.hid hxd
  have HCUT := Lib.hid hcut
  have HR := Lib.hid hr
  clear x hxd hcut hr hnn hl hEP hSQ hCN hUS
  go_enter Tryz.func33, Tryz.ntmps33
  go_wp2
  refine wp_region_planL [(0, true), (1, true), (2, true), (3, true), (4, true), (5, true), (6, true), (7, true), (8, true), (9, false), (10, true)]
    [(9, fun w1 => w1.cell? ⟨m, 5, none⟩ = some (.int .i64 EP) ∧ w1.cell? ⟨m, 4, none⟩ = some (.int .i64 SQ))] (by kernel_rfl) (by kernel_rfl) (by intro c a d v w h; cases d <;> exact h) ?_ ?_
  · exact ⟨⟨c5, c4⟩, trivial⟩
  simp only [planOps, List.getElem?_cons_zero, List.getElem?_cons_succ]
  iterate 9 (first | ((apply plan_pure rfl; (intro w1; go_simp; try go_bits); with_reducible rfl); try simp only [Act.put, List.setIfInBounds_toArray, List.set_cons_zero, List.set_cons_succ]) | ((refine' plan_load 0 rfl (by kernel_rfl) rfl ?_ ?_; rotate_left; (intro w1 hw1; go_simp; with_reducible rfl)); try simp only [Act.put, List.setIfInBounds_toArray, List.set_cons_zero, List.set_cons_succ]))
  refine plan_loud rfl (fun K hK => ?_); go_simp
  refine (HCUT.out _ HX.out).mono ?_
  rintro e w2 ⟨g, cap, rfl, hx2⟩
  have hx3 := hx2.drew
  obtain ⟨-, d1, -, d3, -, -⟩ := HR.out _ _ hx3.p1
  have HX2 := Lib.hid hx3
  clear hx2 hx3
  dsimp only
  refine hK _ _ trivial ?_
  clear hK K
  try simp only [Act.put, List.setIfInBounds_toArray, List.set_cons_zero, List.set_cons_succ]
  iterate 1 (first | ((apply plan_pure rfl; (intro w1; go_simp; try go_bits); with_reducible rfl); try simp only [Act.put, List.setIfInBounds_toArray, List.set_cons_zero, List.set_cons_succ]) | ((refine' plan_load 0 rfl (by kernel_rfl) rfl ?_ ?_; rotate_left; (intro w1 hw1; go_simp; with_reducible rfl)); try simp only [Act.put, List.setIfInBounds_toArray, List.set_cons_zero, List.set_cons_succ]))
  refine plan_nil ?_
  clear c4 c5
  go_wp2
  refine wp_region_planL [(0, true), (1, true), (2, true), (3, true), (4, true), (5, true), (6, true), (7, true), (8, true), (9, true), (10, true), (11, true)]
    [(12, fun w1 => w1.cell? ⟨m, 1, none⟩ = some (.int .i64 CN) ∧ w1.cell? ⟨m, 3, none⟩ = some (.int .i64 US))] (by kernel_rfl) (by kernel_rfl) (by intro c a d v w h; cases d <;> exact h) ?_ ?_
  · exact ⟨⟨d1, d3⟩, trivial⟩
  simp only [planOps, List.getElem?_cons_zero, List.getElem?_cons_succ]
  iterate 12 (first | ((apply plan_pure rfl; (intro w1; go_simp; try go_bits); with_reducible rfl); try simp only [Act.put, List.setIfInBounds_toArray, List.set_cons_zero, List.set_cons_succ]) | ((refine' plan_load 0 rfl (by kernel_rfl) rfl ?_ ?_; rotate_left; (intro w1 hw1; go_simp; with_reducible rfl)); try simp only [Act.put, List.setIfInBounds_toArray, List.set_cons_zero, List.set_cons_succ]))
  refine plan_nil ?_
  clear d1 d3
  go_wp2
  go_ret
  exact ⟨rfl, HX2.out.tail⟩

set_option maxRecDepth 100000 in
set_option maxHeartbeats 3200000 in
theorem refAppend_ok {E W : World} {L : List HP} {m b : Nat} {r : Rg} {D : Dk} {n0 k0 : Nat} (x : Sat E W (isMr m r :: isRef b D :: L)) (f : Fine n0 D k0) (hk0 : k0 ≤ 90000) (s : ByteArray) (hs : s.size ≤ 6400) (hn : nums r.ep r.seq = true) (hsq : r.seq ≤ 4611686018427600000)
    (hc : 0 < r.cnt) (hc1 : r.fro + r.cnt ≤ n0) (hn0 : n0 ≤ 100000) (hp : r.pos < r.cnt) (huc : r.used ≤ r.cnt) (hf : npc s.size ≤ r.cnt - r.used) :
    Calls Tryz.prog 33 #[.pointer (some ⟨m, 0, none⟩), .pointer (some ⟨b, 0, none⟩), .string s] W fun e w' => e = .returned (.bool true) ∧ Sat E w' (isMr m (rgApp r (npc s.size)) :: isRef b (wroteR D r (cutL s r.ep r.seq) (npc s.size)) :: L) := by
  have hxd := x.drew
  have hcut : ∀ (w : World), Sat E w (isMr m r :: isRef b D :: L) → _ := fun w y => rcutS_ok (w := w) y s r.ep r.seq hs
  obtain ⟨-, -, -, -, c4, c5⟩ := mr6 hxd
  have hll := cutL_len s r.ep r.seq
  have hlok := cutL_ok s r.ep r.seq hs hn
  have hlsq := cutL_seq s r.ep r.seq
  have hn1 : 0 < npc s.size := by unfold npc; omega
  have hn64 : npc s.size ≤ 64 := by unfold npc; omega
  obtain ⟨l, hl⟩ : ∃ l, cutL s r.ep r.seq = l := ⟨_, rfl⟩
  rw [hl] at hcut hll hlok hlsq ⊢
  obtain ⟨n, hnn⟩ : ∃ n, npc s.size = n := ⟨_, rfl⟩
  rw [hnn] at hcut hf hll hn1 hn64 ⊢
  have hfine := fun k hk => f.wrote hk0 hc hc1 hlok k hk (by omega)
  have hwr : ∀ (k : Nat) (p : Pc) (w : World) (M : List HP), l[k]? = some p → Sat E w (isRef b (wroteR D r l k) :: M) → Calls Tryz.prog 73 #[.pointer (some ⟨b, 0, none⟩), .int .i64 (sec r r.pos k), .string (pcB p)] w fun e w' => e = .returned (.int .i64 0) ∧ Sat E w' (isRef b (wroteR D r l (k + 1)) :: M) := fun k p w M hk y => by
    have hkl := (List.getElem?_eq_some_iff.1 hk).1
    have ff := hfine k (by omega)
    have hsl := sec_lt hc r.pos k
    have h := refwrite_ok y (ff.run.made (by omega)) ff.run.ok (by have := ff.run.w; omega) (sec r r.pos k) (pcB p) (by rw [pcB_size (okPc_data (hlok _ (List.mem_of_getElem? hk)))]; omega)
    rw [ff.writeE (by omega) (by omega) (Nat.le_of_eq (pcB_size (okPc_data (hlok _ (List.mem_of_getElem? hk))))), ← wroteR_succ hk] at h
    exact h
  have hsec : ∀ i : Nat, (r.fro : Int) + ((r.pos : Int) + (i : Int)) % (r.cnt : Int) = ((sec r r.pos i : Nat) : Int) := fun i => by unfold sec; push_cast; rfl
  have hsl := fun (i : Nat) => sec_lt hc r.pos i
  have hr := fun (w : World) (M : List HP) (y : Sat E w (isMr m r :: M)) => mr6 y
  have hfr := fun (w : World) (M : List HP) (y : Sat E w (isMr m r :: M)) (i : Nat) => frozen_blk y.at i
  have hput : ∀ (p : Pc) (W : World) (M : List HP), p ∈ l → Sat E W M → Calls Tryz.prog 15 #[.agg p.arr] W fun e w' => e = .returned (.string (pcB p)) ∧ Sat E w' M := fun p W M hp y =>
    refPc_ok y p (okPc_nat (hlok p hp) (by rw [(hlsq p hp).1]; omega))
  obtain ⟨SE, hSE⟩ : ∃ S : Nat → Nat, ∀ i, sec r r.pos i = S i := ⟨_, fun _ => rfl⟩
  simp only [hSE] at hwr hsec hsl
  obtain ⟨EP, hEP⟩ : ∃ e, r.ep = e := ⟨_, rfl⟩
  obtain ⟨SQ, hSQ⟩ : ∃ e, r.seq = e := ⟨_, rfl⟩
  obtain ⟨CN, hCN⟩ : ∃ e, r.cnt = e := ⟨_, rfl⟩
  obtain ⟨US, hUS⟩ : ∃ e, r.used = e := ⟨_, rfl⟩
  obtain ⟨PO, hPO⟩ : ∃ e, r.pos = e := ⟨_, rfl⟩
  obtain ⟨FR, hFR⟩ : ∃ e, r.fro = e := ⟨_, rfl⟩
  have happ : rgApp r n = { r with pos := (PO + n) % CN, used := US + n, seq := SQ + 1 } := by unfold rgApp; rw [hPO, hCN, hUS, hSQ]
  rw [hCN, hUS] at hf huc
  rw [hEP, hSQ] at hcut
  rw [hSQ] at c4 hsq
  rw [hEP] at c5
  rw [hPO, hCN, hFR] at hsec
  rw [hCN, hFR] at hsl hc1
  rw [hCN] at hc hp
  rw [hPO] at hp
  rw [hFR, hCN, hPO, hUS, hSQ] at hr
  have hs0 : 1 ≤ SQ := by
    unfold nums at hn
    simp only [Bool.and_eq_true, decide_eq_true_eq] at hn
    rw [← hSQ]; exact hn.2
  have HX := Lib.hid hxd
  have HCUT := Lib.hid hcut
  have HWR := Lib.hid hwr
  have HSEC := Lib.hid hsec
  have HSL := Lib.hid hsl
  have HR := Lib.hid hr
  have HFR := Lib.hid hfr
  have HPUT := Lib.hid hput
  have HAPP := Lib.hid happ
  have HLL := Lib.hid hll
  have hlt : ¬ (CN : Int) - (US : Int) < (n : Int) := by omega
  clear x hxd hcut hwr hsec hsl hr hfr hput happ hlok hlsq hl hfine f hn hEP hSQ hCN hUS hPO hFR hnn hSE hll
  go_enter Tryz.func33, Tryz.ntmps33
  go_wp2
  refine wp_region_planL [(0, true), (1, true), (2, true), (3, true), (4, true), (5, true), (6, true), (7, true), (8, true), (9, false), (10, true)]
    [(9, fun w1 => w1.cell? ⟨m, 5, none⟩ = some (.int .i64 EP) ∧ w1.cell? ⟨m, 4, none⟩ = some (.int .i64 SQ))] (by kernel_rfl) (by kernel_rfl) (by intro c a d v w h; cases d <;> exact h) ?_ ?_
  · exact ⟨⟨c5, c4⟩, trivial⟩
  simp only [planOps, List.getElem?_cons_zero, List.getElem?_cons_succ]
  iterate 9 (first | ((apply plan_pure rfl; (intro w1; go_simp; try go_bits); with_reducible rfl); try simp only [Act.put, List.setIfInBounds_toArray, List.set_cons_zero, List.set_cons_succ]) | ((refine' plan_load 0 rfl (by kernel_rfl) rfl ?_ ?_; rotate_left; (intro w1 hw1; go_simp; with_reducible rfl)); try simp only [Act.put, List.setIfInBounds_toArray, List.set_cons_zero, List.set_cons_succ]))
  refine plan_loud rfl (fun K hK => ?_); go_simp
  refine (HCUT.out _ HX.out).mono ?_
  rintro e w2 ⟨g, cap, rfl, hx2⟩
  have hx3 := hx2.drew
  obtain ⟨-, d1, -, d3, -, -⟩ := HR.out _ _ hx3.p1
  have HX2 := Lib.hid hx3
  clear hx2 hx3
  dsimp only
  refine hK _ _ trivial ?_
  clear hK K
  try simp only [Act.put, List.setIfInBounds_toArray, List.set_cons_zero, List.set_cons_succ]
  iterate 1 (first | ((apply plan_pure rfl; (intro w1; go_simp; try go_bits); with_reducible rfl); try simp only [Act.put, List.setIfInBounds_toArray, List.set_cons_zero, List.set_cons_succ]) | ((refine' plan_load 0 rfl (by kernel_rfl) rfl ?_ ?_; rotate_left; (intro w1 hw1; go_simp; with_reducible rfl)); try simp only [Act.put, List.setIfInBounds_toArray, List.set_cons_zero, List.set_cons_succ]))
  refine plan_nil ?_
  clear c4 c5
  go_wp2
  refine wp_region_planL [(0, true), (1, true), (2, true), (3, true), (4, true), (5, true), (6, true), (7, true), (8, true), (9, true), (10, true), (11, true)]
    [(12, fun w1 => w1.cell? ⟨m, 1, none⟩ = some (.int .i64 CN) ∧ w1.cell? ⟨m, 3, none⟩ = some (.int .i64 US))] (by kernel_rfl) (by kernel_rfl) (by intro c a d v w h; cases d <;> exact h) ?_ ?_
  · exact ⟨⟨d1, d3⟩, trivial⟩
  simp only [planOps, List.getElem?_cons_zero, List.getElem?_cons_succ]
  iterate 12 (first | ((apply plan_pure rfl; (intro w1; go_simp; try go_bits); with_reducible rfl); try simp only [Act.put, List.setIfInBounds_toArray, List.set_cons_zero, List.set_cons_succ]) | ((refine' plan_load 0 rfl (by kernel_rfl) rfl ?_ ?_; rotate_left; (intro w1 hw1; go_simp; with_reducible rfl)); try simp only [Act.put, List.setIfInBounds_toArray, List.set_cons_zero, List.set_cons_succ]))
  refine plan_nil ?_
  clear d1 d3
  go_wp2
  go_loopw [8] (fun i wr => ∃ k : Nat, k ≤ n ∧ i = .int .i64 k ∧ Sat E wr (isMr m r :: isRef b (wroteR D r l k) :: row 23 5 (.slice (some ⟨g, 0, none⟩) n cap) n (pcs l) :: L)) (fun i _ => n - (intOf i).toNat)
  case atStart => exact ⟨0, by omega, rfl, HX2.out.p2.p2⟩
  case round =>
    obtain ⟨k, hk, rfl, hx⟩ := hrel
    by_cases hkl : k < n
    · obtain ⟨p, hp2⟩ : ∃ p, l[k]? = some p := ⟨_, List.getElem?_eq_getElem (by rw [HLL.out]; exact hkl)⟩
      have hmem := List.mem_of_getElem? hp2
      have hxd := hx.drew
      obtain ⟨e0, e1, e2, e3, e4, e5⟩ := HR.out _ _ hxd
      obtain ⟨c0, c1, c2, c3, c4⟩ := row_pc hxd.p2 hp2 hn1
      have hfa := fun (W : World) (R : HP) (y : Sat E W (isMr m r :: R :: row 23 5 (.slice (some ⟨g, 0, none⟩) n cap) n (pcs l) :: L)) => (⟨HR.out _ _ y, row_pc y.p2 hp2 hn1⟩ : _ ∧ _)
      have hpp := fun (W : World) (M : List HP) (y : Sat E W M) => HPUT.out p W M hmem y
      have hww := fun (W : World) (M : List HP) (y : Sat E W (isRef b (wroteR D r l k) :: M)) => HWR.out k p W M hp2 y
      have hsk := HSEC.out k
      have hslk := HSL.out k
      obtain ⟨J, hJ⟩ : ∃ J, SE k = J := ⟨_, rfl⟩
      obtain ⟨T, hT⟩ : ∃ T, pcB p = T := ⟨_, rfl⟩
      rw [hT] at hpp hww
      rw [hJ] at hww hsk hslk
      have hpk0 : 0 ≤ ((PO : Int) + (k : Int)) := by omega
      have hne : ¬ (CN = 0) := by omega
      have hmd : ((PO : Int) + (k : Int)).tmod (CN : Int) = ((PO : Int) + (k : Int)) % (CN : Int) := Int.tmod_eq_emod_of_nonneg hpk0
      obtain ⟨MM, hMM⟩ : ∃ M, ((PO : Int) + (k : Int)) % (CN : Int) = M := ⟨_, rfl⟩
      rw [hMM] at hsk hmd
      have hsk2 : MM = (J : Int) - (FR : Int) := by omega
      subst hsk2
      obtain ⟨p0, p1, p2, p3, p4⟩ := p
      unfold Pc.arr at hpp
      dsimp only at c0 c1 c2 c3 c4 hpp hfa
      have HXA := Lib.hid hxd
      have HFA := Lib.hid hfa
      have HPP := Lib.hid hpp
      have HWW := Lib.hid hww
      clear hx hxd hpp hww hT hJ hp2 hmem hMM hfa e4 e5
      go_wp2
      refine wp_region_planL [(0, true), (1, true), (2, true), (3, true), (4, true), (5, true), (6, true), (7, true), (8, true), (9, true), (10, true), (11, true), (12, true), (13, true), (14, true), (15, true), (16, true), (17, true), (18, true), (19, true), (20, true), (21, false), (22, false)]
        [(23, fun w1 => w1.cell? ⟨m, 0, none⟩ = some (.int .i64 FR) ∧ w1.cell? ⟨m, 1, none⟩ = some (.int .i64 CN) ∧ w1.cell? ⟨m, 2, none⟩ = some (.int .i64 PO) ∧ w1.cell? ⟨g, k * 5, none⟩ = some (.int .i64 p0) ∧ w1.cell? ⟨g, k * 5 + 1, none⟩ = some (.int .i64 p1) ∧ w1.cell? ⟨g, k * 5 + 2, none⟩ = some (.int .i64 p2) ∧ w1.cell? ⟨g, k * 5 + 3, none⟩ = some (.int .i64 p3) ∧ w1.cell? ⟨g, k * 5 + 4, none⟩ = some (.string p4))] (by kernel_rfl) (by kernel_rfl) (by intro c a d v w h; cases d <;> exact h) ?_ ?_
      · exact ⟨⟨e0, e1, e2, c0, c1, c2, c3, c4⟩, trivial⟩
      simp only [planOps, List.getElem?_cons_zero, List.getElem?_cons_succ]
      iterate 21 (first | ((apply plan_pure rfl; (intro w1; go_simp; try go_bits); with_reducible rfl); try simp only [Act.put, List.setIfInBounds_toArray, List.set_cons_zero, List.set_cons_succ]) | ((refine' plan_load 0 rfl (by kernel_rfl) rfl ?_ ?_; rotate_left; (intro w1 hw1; go_simp; with_reducible rfl)); try simp only [Act.put, List.setIfInBounds_toArray, List.set_cons_zero, List.set_cons_succ]))
      refine plan_loud rfl (fun K hK => ?_); go_simp
      refine (HPP.out _ _ HXA.out).mono ?_
      rintro e w5 ⟨rfl, hx5⟩
      obtain ⟨⟨f0, f1, f2, -, -, -⟩, g0, g1, g2, g3, g4⟩ := HFA.out _ _ hx5
      have HX5 := Lib.hid hx5
      clear hx5
      dsimp only
      refine hK _ _ ⟨⟨f0, f1, f2, g0, g1, g2, g3, g4⟩, trivial⟩ ?_
      clear hK K f0 f1 f2 g0 g1 g2 g3 g4
      try simp only [Act.put, List.setIfInBounds_toArray, List.set_cons_zero, List.set_cons_succ]
      refine plan_loud rfl (fun K hK => ?_); go_simp
      refine (HWW.out _ _ HX5.out.p1).mono ?_
      rintro e w8 ⟨rfl, hx8⟩
      obtain ⟨⟨f0, f1, f2, -, -, -⟩, g0, g1, g2, g3, g4⟩ := HFA.out _ _ hx8.p1
      have HX8 := Lib.hid hx8.p1
      clear hx8
      dsimp only
      refine hK _ _ ⟨⟨f0, f1, f2, g0, g1, g2, g3, g4⟩, trivial⟩ ?_
      clear hK K f0 f1 f2 g0 g1 g2 g3 g4 e0 e1 e2 e3 c0 c1 c2 c3 c4
      try simp only [Act.put, List.setIfInBounds_toArray, List.set_cons_zero, List.set_cons_succ]
      refine plan_nil ?_
      go_wp2
      exact ⟨⟨k + 1, by omega, by go_num, HX8.out⟩, by simp [intOf]; omega⟩
    · obtain rfl : k = n := by omega
      have hxd := hx.drew
      obtain ⟨-, e1, e2, -, -, -⟩ := HR.out _ _ hxd
      obtain ⟨-, -, -, y3, y4, -⟩ := HR.out _ _ hx
      have z2 := HFR.out _ _ hx 2
      have z3 := HFR.out _ _ hx 3
      have z4 := HFR.out _ _ hx 4
      have hne : ¬ (CN = 0) := by omega
      have hcast : (((PO + k) % CN : Nat) : Int) = ((PO : Int) + (k : Int)) % (CN : Int) := by rw [Int.natCast_emod]; rfl
      have happ := HAPP.out
      have hx1 := (hx.setCell 2 (.int .i64 (((PO : Int) + (k : Int)) % (CN : Int)))).drew
      have hx2 := (hx1.setCell 3 (.int .i64 ((US : Int) + (k : Int)))).setCell 4 (.int .i64 (SQ + 1))
      have hx3 := hx2.head (A' := isMr m (rgApp r k)) (fun kk hk => by rw [happ]; unfold isMr Rg.mr; dsimp only; rw [hcast]; exact hk)
      have HX9 := Lib.hid hx3
      clear hx hxd hx1 hx2 hx3 happ hcast
      go_wp2
      refine wp_region_planL [(0, true), (1, true), (2, true), (3, true), (4, true), (5, true), (6, true), (7, true), (8, true), (9, true), (10, true), (11, true), (12, true), (13, true), (14, true), (15, false)]
        [(15, fun w1 => w1.cell? ⟨m, 2, none⟩ = some (.int .i64 PO) ∧ w1.cell? ⟨m, 1, none⟩ = some (.int .i64 CN))] (by kernel_rfl) (by kernel_rfl) (by intro c a d v w h; cases d <;> exact h) ?_ ?_
      · exact ⟨⟨e2, e1⟩, trivial⟩
      simp only [planOps, List.getElem?_cons_zero, List.getElem?_cons_succ]
      iterate 15 (first | ((apply plan_pure rfl; (intro w1; go_simp; try go_bits); with_reducible rfl); try simp only [Act.put, List.setIfInBounds_toArray, List.set_cons_zero, List.set_cons_succ]) | ((refine' plan_load 0 rfl (by kernel_rfl) rfl ?_ ?_; rotate_left; (intro w1 hw1; go_simp; with_reducible rfl)); try simp only [Act.put, List.setIfInBounds_toArray, List.set_cons_zero, List.set_cons_succ]))
      refine plan_loud rfl (fun K hK => ?_); go_simp
      refine hK _ _ trivial (plan_nil ?_)
      clear hK K e1 e2
      go_wp2
      go_ret
      exact ⟨rfl, HX9.out.p2.tail⟩
end Go.Proofs.YtmkpglabiikdeaaGreatDoor
