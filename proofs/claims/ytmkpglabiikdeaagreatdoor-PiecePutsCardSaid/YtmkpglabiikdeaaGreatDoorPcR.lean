/-
  The document's Get of a piece, walked.
-/
import Derived.Test.YtmkpglabiikdeaaGreatDoorPcG
namespace Go.Proofs.YtmkpglabiikdeaaGreatDoor
open Go.RowKit PH
theorem refU4_to {E W : World} {L : List HP} {b p q : Nat} {S : ByteArray} (hq : p + 4 = q) (x : Sat E W (isRf b S p 0 :: L)) (h : p + 4 ≤ S.size) (hs : S.size ≤ 9223372036854775000) :
    Calls Tryz.prog 54 #[.pointer (some ⟨b, 0, none⟩), .int .i64 4] W fun e w' => e = .returned (.int .i64 (fld S p 4)) ∧ Sat E w' (isRf b S q 0 :: L) := by
  subst hq; exact refU4_at x h hs
theorem refU8_to {E W : World} {L : List HP} {b p q : Nat} {S : ByteArray} (hq : p + 8 = q) (x : Sat E W (isRf b S p 0 :: L)) (h : p + 8 ≤ S.size) (hs : S.size ≤ 9223372036854775000) (hn : fld S p 8 ≤ 9223372036854775807) :
    Calls Tryz.prog 54 #[.pointer (some ⟨b, 0, none⟩), .int .i64 8] W fun e w' => e = .returned (.int .i64 (fld S p 8)) ∧ Sat E w' (isRf b S q 0 :: L) := by
  subst hq; exact refU8_at x h hs hn
theorem zq {E w : World} {L : List HP} (x : Sat E w L) : Sat E (w.alloc (.cells #[.int .i64 0, .int .i64 0, .int .i64 0, .int .i64 0, .string ⟨#[]⟩] 23)) (pt w.heap.size (.cells noPc.arr 23) :: L) := x.alloc _
attribute [local irreducible] fld pcB pcOfB left
set_option maxRecDepth 100000 in
set_option maxHeartbeats 600000 in
theorem rpcGet_size {E W : World} {L : List HP} (x : Sat E W L) (s : ByteArray) (hs : s.size ≤ 9223372036854775807) (hz : s.size ≠ 128) : Calls Tryz.prog 16 #[.string s] W fun e w' => e = .returned (.tuple #[.agg noPc.arr, .bool false]) ∧ Sat E w' L := by
  have hx1 := zp x
  obtain ⟨q, hq⟩ : ∃ q, W.heap.size = q := ⟨_, rfl⟩
  rw [hq] at hx1
  have HX1 := Lib.hid hx1
  clear hx1 x
  have hb : ((s.size : Int) != 128) = true := by simp; omega
  go_enter Tryz.func16, Tryz.ntmps16
  go_wp2_with ((with_reducible refine wpList_store_pc HX1.out noPc ?_ ?_; exact ⟨rfl, _, _, rfl, rfl, rfl⟩; intro w9 hx9; have HX9 := Lib.hid hx9; clear hx9))
  refine bodyPost_ret (v := .tuple #[.agg noPc.arr, .bool false]) ?_ rfl ⟨rfl, HX9.out.tail⟩
  rw [results_cell_tmp rfl]
  simp [asAddr, load_pc HX9.out, Result.andThen]

set_option maxRecDepth 100000 in
set_option maxHeartbeats 600000 in
theorem rpcGet_len {E W : World} {L : List HP} (x : Sat E W L) (s : ByteArray) (hz : s.size = 128) (hg : fld s 4 8 ≤ 9223372036854775807) (hlen : ¬ fld s 20 4 ≤ 100) : Calls Tryz.prog 16 #[.string s] W fun e w' => e = .returned (.tuple #[.agg noPc.arr, .bool false]) ∧ Sat E w' L := by
  have hx1 := zp x
  obtain ⟨q, hq⟩ : ∃ q, W.heap.size = q := ⟨_, rfl⟩
  rw [hq] at hx1
  obtain ⟨e, he⟩ : ∃ e, fld s 0 4 = e := ⟨_, rfl⟩
  obtain ⟨sq, hsq⟩ : ∃ e, fld s 4 8 = e := ⟨_, rfl⟩
  obtain ⟨t, ht⟩ : ∃ e, fld s 12 4 = e := ⟨_, rfl⟩
  obtain ⟨n, hn⟩ : ∃ e, fld s 16 4 = e := ⟨_, rfl⟩
  obtain ⟨m, hm⟩ : ∃ e, fld s 20 4 = e := ⟨_, rfl⟩
  obtain ⟨X, hX⟩ : ∃ X, s.extract 24 (24 + m) = X := ⟨_, rfl⟩
  obtain ⟨p, hp⟩ : ∃ p, pcOfB s = p := ⟨_, rfl⟩
  have hpe : p = ⟨e, sq, t, n, X⟩ := by rw [← hp]; unfold pcOfB; rw [he, hsq, ht, hn, hm, hX]
  have he0 : e < 4294967296 := by rw [← he]; exact fld_lt s 0 4
  have ht0 : t < 4294967296 := by rw [← ht]; exact fld_lt s 12 4
  have hn0 : n < 4294967296 := by rw [← hn]; exact fld_lt s 16 4
  have hm0 : m < 4294967296 := by rw [← hm]; exact fld_lt s 20 4
  obtain ⟨b, hb⟩ : ∃ b, q + 1 = b := ⟨_, rfl⟩
  obtain ⟨h, hh⟩ : ∃ b', b + 1 = b' := ⟨_, rfl⟩
  have hx1 := zq x
  rw [hq] at hx1
  have hx3 := zq (hx1.alloc (.cells #[.string s, .int .i64 0, .int .i64 0] 88))
  rw [World.size_alloc, World.size_alloc, hq, hb, hh] at hx3
  have HX3 : Hid (Sat E _ (pt h (.cells (⟨0, 0, 0, 0, ByteArray.empty⟩ : Pc).arr 23) :: isRf b s 0 0 :: pt q (.cells noPc.arr 23) :: L)) := Lib.hid hx3
  clear hx3
  rw [hsq] at hg
  rw [hm] at hlen
  have hlt : (100 : Int) < (m : Int) := by omega
  have F0 := Lib.hid he
  have F1 := Lib.hid hsq
  have F2 := Lib.hid ht
  have F3 := Lib.hid hn
  have F4 := Lib.hid hm
  have HXX := Lib.hid hX
  have HPP := Lib.hid hp
  have HPE := Lib.hid hpe
  have HX1 := Lib.hid hx1
  clear he hsq ht hn hm hX hp hpe hx1 x
  go_enter Tryz.func16, Tryz.ntmps16
  go_wp2_with (first
    | (go_at_call 54; with_reducible refine (refU4_to (p := 0) (q := 4) (by omega) HX3.out.p1 (by omega) (by omega)).mono ?_; rintro e4 w4 ⟨rfl, hx4⟩; rw [F0.out]; have c4 := (pc5 (p := ⟨0, 0, 0, 0, ByteArray.empty⟩) hx4.p1).1; dsimp only at c4; have z4 := frozen_blk hx4.p1.at 0; have hx4 : Sat E _ (pt h (.cells (⟨e, 0, 0, 0, ByteArray.empty⟩ : Pc).arr 23) :: isRf b s 4 0 :: pt q (.cells noPc.arr 23) :: L) := hx4.p1.setCell 0 (.int .i64 e); have HX4 := Lib.hid hx4; clear hx4)
    | (go_at_call 54; with_reducible refine (refU8_to (p := 4) (q := 12) (by omega) HX4.out.p1 (by omega) (by omega) (by rw [F1.out]; omega)).mono ?_; rintro e5 w5 ⟨rfl, hx5⟩; rw [F1.out]; have c5 := (pc5 (p := ⟨e, 0, 0, 0, ByteArray.empty⟩) hx5.p1).2.1; dsimp only at c5; have z5 := frozen_blk hx5.p1.at 1; have hx5 : Sat E _ (pt h (.cells (⟨e, sq, 0, 0, ByteArray.empty⟩ : Pc).arr 23) :: isRf b s 12 0 :: pt q (.cells noPc.arr 23) :: L) := hx5.p1.setCell 1 (.int .i64 sq); have HX5 := Lib.hid hx5; clear hx5)
    | (go_at_call 54; with_reducible refine (refU4_to (p := 12) (q := 16) (by omega) HX5.out.p1 (by omega) (by omega)).mono ?_; rintro e6 w6 ⟨rfl, hx6⟩; rw [F2.out]; have c6 := (pc5 (p := ⟨e, sq, 0, 0, ByteArray.empty⟩) hx6.p1).2.2.1; dsimp only at c6; have z6 := frozen_blk hx6.p1.at 2; have hx6 : Sat E _ (pt h (.cells (⟨e, sq, t, 0, ByteArray.empty⟩ : Pc).arr 23) :: isRf b s 16 0 :: pt q (.cells noPc.arr 23) :: L) := hx6.p1.setCell 2 (.int .i64 t); have HX6 := Lib.hid hx6; clear hx6)
    | (go_at_call 54; with_reducible refine (refU4_to (p := 16) (q := 20) (by omega) HX6.out.p1 (by omega) (by omega)).mono ?_; rintro e7 w7 ⟨rfl, hx7⟩; rw [F3.out]; have c7 := (pc5 (p := ⟨e, sq, t, 0, ByteArray.empty⟩) hx7.p1).2.2.2.1; dsimp only at c7; have z7 := frozen_blk hx7.p1.at 3; have hx7 : Sat E _ (pt h (.cells (⟨e, sq, t, n, ByteArray.empty⟩ : Pc).arr 23) :: isRf b s 20 0 :: pt q (.cells noPc.arr 23) :: L) := hx7.p1.setCell 3 (.int .i64 n); have HX7 := Lib.hid hx7; clear hx7)
    | (go_at_call 54; with_reducible refine (refU4_to (p := 20) (q := 24) (by omega) HX7.out.p1 (by omega) (by omega)).mono ?_; rintro e8 w8 ⟨rfl, hx8⟩; rw [F4.out]; have k2 : w8.cell? ⟨b, 2, none⟩ = some (.int .i64 0) := cell_blk hx8.at 2; obtain ⟨d0, d1, d2, d3, d4⟩ := pc5 (p := ⟨e, sq, t, n, ByteArray.empty⟩) hx8.p1; dsimp only at d0 d1 d2 d3 d4; have f4 := frozen_blk hx8.p1.at 4; have HX8 := Lib.hid hx8; clear hx8)
    | (with_reducible refine wpList_store_pc HX8.out.p2 noPc ?_ ?_; exact ⟨rfl, _, _, rfl, rfl, rfl⟩; intro w9 hx9; have HX9 := Lib.hid hx9; clear hx9))
  refine bodyPost_ret (v := .tuple #[.agg noPc.arr, .bool false]) ?_ rfl ⟨rfl, HX9.out.tail.tail.tail⟩
  rw [results_cell_tmp rfl]
  simp [asAddr, load_pc HX9.out, Result.andThen]

set_option maxRecDepth 100000 in
set_option maxHeartbeats 600000 in
theorem rpcGet_bad {E W : World} {L : List HP} (x : Sat E W L) (s : ByteArray) (hz : s.size = 128) (hg : fld s 4 8 ≤ 9223372036854775807) (hlen : fld s 20 4 ≤ 100) (hok : okPc (pcOfB s) = false) : Calls Tryz.prog 16 #[.string s] W fun e w' => e = .returned (.tuple #[.agg noPc.arr, .bool false]) ∧ Sat E w' L := by
  have hx1 := zp x
  obtain ⟨q, hq⟩ : ∃ q, W.heap.size = q := ⟨_, rfl⟩
  rw [hq] at hx1
  obtain ⟨e, he⟩ : ∃ e, fld s 0 4 = e := ⟨_, rfl⟩
  obtain ⟨sq, hsq⟩ : ∃ e, fld s 4 8 = e := ⟨_, rfl⟩
  obtain ⟨t, ht⟩ : ∃ e, fld s 12 4 = e := ⟨_, rfl⟩
  obtain ⟨n, hn⟩ : ∃ e, fld s 16 4 = e := ⟨_, rfl⟩
  obtain ⟨m, hm⟩ : ∃ e, fld s 20 4 = e := ⟨_, rfl⟩
  obtain ⟨X, hX⟩ : ∃ X, s.extract 24 (24 + m) = X := ⟨_, rfl⟩
  obtain ⟨p, hp⟩ : ∃ p, pcOfB s = p := ⟨_, rfl⟩
  have hpe : p = ⟨e, sq, t, n, X⟩ := by rw [← hp]; unfold pcOfB; rw [he, hsq, ht, hn, hm, hX]
  have he0 : e < 4294967296 := by rw [← he]; exact fld_lt s 0 4
  have ht0 : t < 4294967296 := by rw [← ht]; exact fld_lt s 12 4
  have hn0 : n < 4294967296 := by rw [← hn]; exact fld_lt s 16 4
  have hm0 : m < 4294967296 := by rw [← hm]; exact fld_lt s 20 4
  obtain ⟨b, hb⟩ : ∃ b, q + 1 = b := ⟨_, rfl⟩
  obtain ⟨h, hh⟩ : ∃ b', b + 1 = b' := ⟨_, rfl⟩
  have hx1 := zq x
  rw [hq] at hx1
  have hx3 := zq (hx1.alloc (.cells #[.string s, .int .i64 0, .int .i64 0] 88))
  rw [World.size_alloc, World.size_alloc, hq, hb, hh] at hx3
  have HX3 : Hid (Sat E _ (pt h (.cells (⟨0, 0, 0, 0, ByteArray.empty⟩ : Pc).arr 23) :: isRf b s 0 0 :: pt q (.cells noPc.arr 23) :: L)) := Lib.hid hx3
  clear hx3
  have hnp := pcOfB_nat hg hlen
  rw [he, hsq, ht, hn, hp] at hnp
  rw [hsq] at hg
  rw [hm] at hlen
  have hXs : X.size ≤ 9223372036854775807 := by rw [← hX, ByteArray.size_extract]; omega
  have hpd : p.data.size ≤ 9223372036854775807 := by rw [hpe]; exact hXs
  have hpa : p.arr = #[.int .i64 e, .int .i64 sq, .int .i64 t, .int .i64 n, .string X] := by rw [hpe]; rfl
  have hX2 : s.extract 24 (24 + m) = X := hX
  have hti : ((24 : Int) + (m : Int)).toNat = 24 + m := by omega
  rw [hp] at hok
  have HPD := Lib.hid hpd
  have HPA := Lib.hid hpa
  have HOK := Lib.hid hok
  have HNP := Lib.hid hnp
  clear hpd hpa hok hnp
  have F0 := Lib.hid he
  have F1 := Lib.hid hsq
  have F2 := Lib.hid ht
  have F3 := Lib.hid hn
  have F4 := Lib.hid hm
  have HXX := Lib.hid hX
  have HPP := Lib.hid hp
  have HPE := Lib.hid hpe
  have HX1 := Lib.hid hx1
  clear he hsq ht hn hm hX hp hpe hx1 x
  go_enter Tryz.func16, Tryz.ntmps16
  go_wp2_with (first
    | (go_at_call 54; with_reducible refine (refU4_to (p := 0) (q := 4) (by omega) HX3.out.p1 (by omega) (by omega)).mono ?_; rintro e4 w4 ⟨rfl, hx4⟩; rw [F0.out]; have c4 := (pc5 (p := ⟨0, 0, 0, 0, ByteArray.empty⟩) hx4.p1).1; dsimp only at c4; have z4 := frozen_blk hx4.p1.at 0; have hx4 : Sat E _ (pt h (.cells (⟨e, 0, 0, 0, ByteArray.empty⟩ : Pc).arr 23) :: isRf b s 4 0 :: pt q (.cells noPc.arr 23) :: L) := hx4.p1.setCell 0 (.int .i64 e); have HX4 := Lib.hid hx4; clear hx4)
    | (go_at_call 54; with_reducible refine (refU8_to (p := 4) (q := 12) (by omega) HX4.out.p1 (by omega) (by omega) (by rw [F1.out]; omega)).mono ?_; rintro e5 w5 ⟨rfl, hx5⟩; rw [F1.out]; have c5 := (pc5 (p := ⟨e, 0, 0, 0, ByteArray.empty⟩) hx5.p1).2.1; dsimp only at c5; have z5 := frozen_blk hx5.p1.at 1; have hx5 : Sat E _ (pt h (.cells (⟨e, sq, 0, 0, ByteArray.empty⟩ : Pc).arr 23) :: isRf b s 12 0 :: pt q (.cells noPc.arr 23) :: L) := hx5.p1.setCell 1 (.int .i64 sq); have HX5 := Lib.hid hx5; clear hx5)
    | (go_at_call 54; with_reducible refine (refU4_to (p := 12) (q := 16) (by omega) HX5.out.p1 (by omega) (by omega)).mono ?_; rintro e6 w6 ⟨rfl, hx6⟩; rw [F2.out]; have c6 := (pc5 (p := ⟨e, sq, 0, 0, ByteArray.empty⟩) hx6.p1).2.2.1; dsimp only at c6; have z6 := frozen_blk hx6.p1.at 2; have hx6 : Sat E _ (pt h (.cells (⟨e, sq, t, 0, ByteArray.empty⟩ : Pc).arr 23) :: isRf b s 16 0 :: pt q (.cells noPc.arr 23) :: L) := hx6.p1.setCell 2 (.int .i64 t); have HX6 := Lib.hid hx6; clear hx6)
    | (go_at_call 54; with_reducible refine (refU4_to (p := 16) (q := 20) (by omega) HX6.out.p1 (by omega) (by omega)).mono ?_; rintro e7 w7 ⟨rfl, hx7⟩; rw [F3.out]; have c7 := (pc5 (p := ⟨e, sq, t, 0, ByteArray.empty⟩) hx7.p1).2.2.2.1; dsimp only at c7; have z7 := frozen_blk hx7.p1.at 3; have hx7 : Sat E _ (pt h (.cells (⟨e, sq, t, n, ByteArray.empty⟩ : Pc).arr 23) :: isRf b s 20 0 :: pt q (.cells noPc.arr 23) :: L) := hx7.p1.setCell 3 (.int .i64 n); have HX7 := Lib.hid hx7; clear hx7)
    | (go_at_call 54; with_reducible refine (refU4_to (p := 20) (q := 24) (by omega) HX7.out.p1 (by omega) (by omega)).mono ?_; rintro e8 w8 ⟨rfl, hx8⟩; rw [F4.out]; have k2 : w8.cell? ⟨b, 2, none⟩ = some (.int .i64 0) := cell_blk hx8.at 2; obtain ⟨d0, d1, d2, d3, d4⟩ := pc5 (p := ⟨e, sq, t, n, ByteArray.empty⟩) hx8.p1; dsimp only at d0 d1 d2 d3 d4; have f4 := frozen_blk hx8.p1.at 4; have HX8 := Lib.hid hx8; clear hx8)
    | (go_at_call 12; go_loud (have hx9 : Sat E (w8.setCell ⟨h, 4, none⟩ (.string X)) (pt h (.cells (⟨e, sq, t, n, X⟩ : Pc).arr 23) :: isRf b s 24 0 :: pt q (.cells noPc.arr 23) :: L) := HX8.out.p1.setCell 4 (.string X); have hck := refCheck_ok p (w8.setCell ⟨h, 4, none⟩ (.string X)) HPD.out; rw [Pc.val_arr, HPA.out] at hck; refine hck.mono ?_; clear hck d0 d1 d2 d3 d4 f4; rintro e9 w9 ⟨rfl, hb9⟩; rw [HOK.out]; have hx9 := hx9.ofBelow hb9; clear hb9; obtain ⟨d0, d1, d2, d3, d4⟩ := pc5 (p := ⟨e, sq, t, n, X⟩) hx9; dsimp only at d0 d1 d2 d3 d4; have HX9 := Lib.hid hx9; clear hx9))
    | (with_reducible refine wpList_store_pc HX9.out.p2 noPc ?_ ?_; exact ⟨rfl, _, _, rfl, rfl, rfl⟩; intro w11 hx11; have HX11 := Lib.hid hx11; clear hx11))
  refine bodyPost_ret (v := .tuple #[.agg noPc.arr, .bool false]) ?_ rfl ⟨rfl, HX11.out.tail.tail.tail⟩
  rw [results_cell_tmp rfl]
  simp [asAddr, load_pc HX11.out, Result.andThen]

set_option maxRecDepth 100000 in
set_option maxHeartbeats 600000 in
theorem rpcGet_diff {E W : World} {L : List HP} (x : Sat E W L) (s : ByteArray) (hz : s.size = 128) (hg : fld s 4 8 ≤ 9223372036854775807) (hlen : fld s 20 4 ≤ 100) (hok : okPc (pcOfB s) = true) (hd : pcB (pcOfB s) ≠ s) : Calls Tryz.prog 16 #[.string s] W fun e w' => e = .returned (.tuple #[.agg noPc.arr, .bool false]) ∧ Sat E w' L := by
  have hx1 := zp x
  obtain ⟨q, hq⟩ : ∃ q, W.heap.size = q := ⟨_, rfl⟩
  rw [hq] at hx1
  obtain ⟨e, he⟩ : ∃ e, fld s 0 4 = e := ⟨_, rfl⟩
  obtain ⟨sq, hsq⟩ : ∃ e, fld s 4 8 = e := ⟨_, rfl⟩
  obtain ⟨t, ht⟩ : ∃ e, fld s 12 4 = e := ⟨_, rfl⟩
  obtain ⟨n, hn⟩ : ∃ e, fld s 16 4 = e := ⟨_, rfl⟩
  obtain ⟨m, hm⟩ : ∃ e, fld s 20 4 = e := ⟨_, rfl⟩
  obtain ⟨X, hX⟩ : ∃ X, s.extract 24 (24 + m) = X := ⟨_, rfl⟩
  obtain ⟨p, hp⟩ : ∃ p, pcOfB s = p := ⟨_, rfl⟩
  have hpe : p = ⟨e, sq, t, n, X⟩ := by rw [← hp]; unfold pcOfB; rw [he, hsq, ht, hn, hm, hX]
  have he0 : e < 4294967296 := by rw [← he]; exact fld_lt s 0 4
  have ht0 : t < 4294967296 := by rw [← ht]; exact fld_lt s 12 4
  have hn0 : n < 4294967296 := by rw [← hn]; exact fld_lt s 16 4
  have hm0 : m < 4294967296 := by rw [← hm]; exact fld_lt s 20 4
  obtain ⟨b, hb⟩ : ∃ b, q + 1 = b := ⟨_, rfl⟩
  obtain ⟨h, hh⟩ : ∃ b', b + 1 = b' := ⟨_, rfl⟩
  have hx1 := zq x
  rw [hq] at hx1
  have hx3 := zq (hx1.alloc (.cells #[.string s, .int .i64 0, .int .i64 0] 88))
  rw [World.size_alloc, World.size_alloc, hq, hb, hh] at hx3
  have HX3 : Hid (Sat E _ (pt h (.cells (⟨0, 0, 0, 0, ByteArray.empty⟩ : Pc).arr 23) :: isRf b s 0 0 :: pt q (.cells noPc.arr 23) :: L)) := Lib.hid hx3
  clear hx3
  have hnp := pcOfB_nat hg hlen
  rw [he, hsq, ht, hn, hp] at hnp
  rw [hsq] at hg
  rw [hm] at hlen
  have hXs : X.size ≤ 9223372036854775807 := by rw [← hX, ByteArray.size_extract]; omega
  have hpd : p.data.size ≤ 9223372036854775807 := by rw [hpe]; exact hXs
  have hpa : p.arr = #[.int .i64 e, .int .i64 sq, .int .i64 t, .int .i64 n, .string X] := by rw [hpe]; rfl
  have hX2 : s.extract 24 (24 + m) = X := hX
  have hti : ((24 : Int) + (m : Int)).toNat = 24 + m := by omega
  rw [hp] at hok
  have HPD := Lib.hid hpd
  have HPA := Lib.hid hpa
  have HOK := Lib.hid hok
  have HNP := Lib.hid hnp
  clear hpd hpa hok hnp
  rw [hp] at hd
  obtain ⟨T, hT⟩ : ∃ T, pcB p = T := ⟨_, rfl⟩
  rw [hT] at hd
  have hne := toList_ne hd
  have HBT := Lib.hid hT
  clear hT hd
  have F0 := Lib.hid he
  have F1 := Lib.hid hsq
  have F2 := Lib.hid ht
  have F3 := Lib.hid hn
  have F4 := Lib.hid hm
  have HXX := Lib.hid hX
  have HPP := Lib.hid hp
  have HPE := Lib.hid hpe
  have HX1 := Lib.hid hx1
  clear he hsq ht hn hm hX hp hpe hx1 x
  go_enter Tryz.func16, Tryz.ntmps16
  go_wp2_with (first
    | (go_at_call 54; with_reducible refine (refU4_to (p := 0) (q := 4) (by omega) HX3.out.p1 (by omega) (by omega)).mono ?_; rintro e4 w4 ⟨rfl, hx4⟩; rw [F0.out]; have c4 := (pc5 (p := ⟨0, 0, 0, 0, ByteArray.empty⟩) hx4.p1).1; dsimp only at c4; have z4 := frozen_blk hx4.p1.at 0; have hx4 : Sat E _ (pt h (.cells (⟨e, 0, 0, 0, ByteArray.empty⟩ : Pc).arr 23) :: isRf b s 4 0 :: pt q (.cells noPc.arr 23) :: L) := hx4.p1.setCell 0 (.int .i64 e); have HX4 := Lib.hid hx4; clear hx4)
    | (go_at_call 54; with_reducible refine (refU8_to (p := 4) (q := 12) (by omega) HX4.out.p1 (by omega) (by omega) (by rw [F1.out]; omega)).mono ?_; rintro e5 w5 ⟨rfl, hx5⟩; rw [F1.out]; have c5 := (pc5 (p := ⟨e, 0, 0, 0, ByteArray.empty⟩) hx5.p1).2.1; dsimp only at c5; have z5 := frozen_blk hx5.p1.at 1; have hx5 : Sat E _ (pt h (.cells (⟨e, sq, 0, 0, ByteArray.empty⟩ : Pc).arr 23) :: isRf b s 12 0 :: pt q (.cells noPc.arr 23) :: L) := hx5.p1.setCell 1 (.int .i64 sq); have HX5 := Lib.hid hx5; clear hx5)
    | (go_at_call 54; with_reducible refine (refU4_to (p := 12) (q := 16) (by omega) HX5.out.p1 (by omega) (by omega)).mono ?_; rintro e6 w6 ⟨rfl, hx6⟩; rw [F2.out]; have c6 := (pc5 (p := ⟨e, sq, 0, 0, ByteArray.empty⟩) hx6.p1).2.2.1; dsimp only at c6; have z6 := frozen_blk hx6.p1.at 2; have hx6 : Sat E _ (pt h (.cells (⟨e, sq, t, 0, ByteArray.empty⟩ : Pc).arr 23) :: isRf b s 16 0 :: pt q (.cells noPc.arr 23) :: L) := hx6.p1.setCell 2 (.int .i64 t); have HX6 := Lib.hid hx6; clear hx6)
    | (go_at_call 54; with_reducible refine (refU4_to (p := 16) (q := 20) (by omega) HX6.out.p1 (by omega) (by omega)).mono ?_; rintro e7 w7 ⟨rfl, hx7⟩; rw [F3.out]; have c7 := (pc5 (p := ⟨e, sq, t, 0, ByteArray.empty⟩) hx7.p1).2.2.2.1; dsimp only at c7; have z7 := frozen_blk hx7.p1.at 3; have hx7 : Sat E _ (pt h (.cells (⟨e, sq, t, n, ByteArray.empty⟩ : Pc).arr 23) :: isRf b s 20 0 :: pt q (.cells noPc.arr 23) :: L) := hx7.p1.setCell 3 (.int .i64 n); have HX7 := Lib.hid hx7; clear hx7)
    | (go_at_call 54; with_reducible refine (refU4_to (p := 20) (q := 24) (by omega) HX7.out.p1 (by omega) (by omega)).mono ?_; rintro e8 w8 ⟨rfl, hx8⟩; rw [F4.out]; have k2 : w8.cell? ⟨b, 2, none⟩ = some (.int .i64 0) := cell_blk hx8.at 2; obtain ⟨d0, d1, d2, d3, d4⟩ := pc5 (p := ⟨e, sq, t, n, ByteArray.empty⟩) hx8.p1; dsimp only at d0 d1 d2 d3 d4; have f4 := frozen_blk hx8.p1.at 4; have HX8 := Lib.hid hx8; clear hx8)
    | (go_at_call 12; go_loud (have hx9 : Sat E (w8.setCell ⟨h, 4, none⟩ (.string X)) (pt h (.cells (⟨e, sq, t, n, X⟩ : Pc).arr 23) :: isRf b s 24 0 :: pt q (.cells noPc.arr 23) :: L) := HX8.out.p1.setCell 4 (.string X); have hck := refCheck_ok p (w8.setCell ⟨h, 4, none⟩ (.string X)) HPD.out; rw [Pc.val_arr, HPA.out] at hck; refine hck.mono ?_; clear hck d0 d1 d2 d3 d4 f4; rintro e9 w9 ⟨rfl, hb9⟩; rw [HOK.out]; have hx9 := hx9.ofBelow hb9; clear hb9; obtain ⟨d0, d1, d2, d3, d4⟩ := pc5 (p := ⟨e, sq, t, n, X⟩) hx9; dsimp only at d0 d1 d2 d3 d4; have HX9 := Lib.hid hx9; clear hx9))
    | (go_at_call 15; go_loud (have hby := refPc_ok HX9.out p HNP.out; rw [HPA.out] at hby; refine hby.mono ?_; clear hby d0 d1 d2 d3 d4; rintro e10 w10 ⟨rfl, hx10⟩; rw [HBT.out]; obtain ⟨d0, d1, d2, d3, d4⟩ := pc5 (p := ⟨e, sq, t, n, X⟩) hx10; dsimp only at d0 d1 d2 d3 d4; have HX10 := Lib.hid hx10; clear hx10))
    | (with_reducible refine wpList_store_pc HX10.out.p2 noPc ?_ ?_; exact ⟨rfl, _, _, rfl, rfl, rfl⟩; intro w11 hx11; have HX11 := Lib.hid hx11; clear hx11))
  refine bodyPost_ret (v := .tuple #[.agg noPc.arr, .bool false]) ?_ rfl ⟨rfl, HX11.out.tail.tail.tail⟩
  rw [results_cell_tmp rfl]
  simp [asAddr, load_pc HX11.out, Result.andThen]

set_option maxRecDepth 100000 in
set_option maxHeartbeats 600000 in
theorem rpcGet_yes {E W : World} {L : List HP} (x : Sat E W L) (s : ByteArray) (hz : s.size = 128) (hg : fld s 4 8 ≤ 9223372036854775807) (hlen : fld s 20 4 ≤ 100) (hok : okPc (pcOfB s) = true) (hd : pcB (pcOfB s) = s) : Calls Tryz.prog 16 #[.string s] W fun e w' => e = .returned (.tuple #[.agg (pcOfB s).arr, .bool true]) ∧ Sat E w' L := by
  have hx1 := zp x
  obtain ⟨q, hq⟩ : ∃ q, W.heap.size = q := ⟨_, rfl⟩
  rw [hq] at hx1
  obtain ⟨e, he⟩ : ∃ e, fld s 0 4 = e := ⟨_, rfl⟩
  obtain ⟨sq, hsq⟩ : ∃ e, fld s 4 8 = e := ⟨_, rfl⟩
  obtain ⟨t, ht⟩ : ∃ e, fld s 12 4 = e := ⟨_, rfl⟩
  obtain ⟨n, hn⟩ : ∃ e, fld s 16 4 = e := ⟨_, rfl⟩
  obtain ⟨m, hm⟩ : ∃ e, fld s 20 4 = e := ⟨_, rfl⟩
  obtain ⟨X, hX⟩ : ∃ X, s.extract 24 (24 + m) = X := ⟨_, rfl⟩
  obtain ⟨p, hp⟩ : ∃ p, pcOfB s = p := ⟨_, rfl⟩
  have hpe : p = ⟨e, sq, t, n, X⟩ := by rw [← hp]; unfold pcOfB; rw [he, hsq, ht, hn, hm, hX]
  have he0 : e < 4294967296 := by rw [← he]; exact fld_lt s 0 4
  have ht0 : t < 4294967296 := by rw [← ht]; exact fld_lt s 12 4
  have hn0 : n < 4294967296 := by rw [← hn]; exact fld_lt s 16 4
  have hm0 : m < 4294967296 := by rw [← hm]; exact fld_lt s 20 4
  obtain ⟨b, hb⟩ : ∃ b, q + 1 = b := ⟨_, rfl⟩
  obtain ⟨h, hh⟩ : ∃ b', b + 1 = b' := ⟨_, rfl⟩
  have hx1 := zq x
  rw [hq] at hx1
  have hx3 := zq (hx1.alloc (.cells #[.string s, .int .i64 0, .int .i64 0] 88))
  rw [World.size_alloc, World.size_alloc, hq, hb, hh] at hx3
  have HX3 : Hid (Sat E _ (pt h (.cells (⟨0, 0, 0, 0, ByteArray.empty⟩ : Pc).arr 23) :: isRf b s 0 0 :: pt q (.cells noPc.arr 23) :: L)) := Lib.hid hx3
  clear hx3
  have hnp := pcOfB_nat hg hlen
  rw [he, hsq, ht, hn, hp] at hnp
  rw [hsq] at hg
  rw [hm] at hlen
  have hXs : X.size ≤ 9223372036854775807 := by rw [← hX, ByteArray.size_extract]; omega
  have hpd : p.data.size ≤ 9223372036854775807 := by rw [hpe]; exact hXs
  have hpa : p.arr = #[.int .i64 e, .int .i64 sq, .int .i64 t, .int .i64 n, .string X] := by rw [hpe]; rfl
  have hX2 : s.extract 24 (24 + m) = X := hX
  have hti : ((24 : Int) + (m : Int)).toNat = 24 + m := by omega
  rw [hp] at hok
  have HPD := Lib.hid hpd
  have HPA := Lib.hid hpa
  have HOK := Lib.hid hok
  have HNP := Lib.hid hnp
  clear hpd hpa hok hnp
  rw [hp] at hd
  have HBT := Lib.hid hd
  clear hd
  have F0 := Lib.hid he
  have F1 := Lib.hid hsq
  have F2 := Lib.hid ht
  have F3 := Lib.hid hn
  have F4 := Lib.hid hm
  have HXX := Lib.hid hX
  have HPP := Lib.hid hp
  have HPE := Lib.hid hpe
  have HX1 := Lib.hid hx1
  rw [HPP.out]
  clear he hsq ht hn hm hX hp hpe hx1 x
  go_enter Tryz.func16, Tryz.ntmps16
  go_wp2_with (first
    | (go_at_call 54; with_reducible refine (refU4_to (p := 0) (q := 4) (by omega) HX3.out.p1 (by omega) (by omega)).mono ?_; rintro e4 w4 ⟨rfl, hx4⟩; rw [F0.out]; have c4 := (pc5 (p := ⟨0, 0, 0, 0, ByteArray.empty⟩) hx4.p1).1; dsimp only at c4; have z4 := frozen_blk hx4.p1.at 0; have hx4 : Sat E _ (pt h (.cells (⟨e, 0, 0, 0, ByteArray.empty⟩ : Pc).arr 23) :: isRf b s 4 0 :: pt q (.cells noPc.arr 23) :: L) := hx4.p1.setCell 0 (.int .i64 e); have HX4 := Lib.hid hx4; clear hx4)
    | (go_at_call 54; with_reducible refine (refU8_to (p := 4) (q := 12) (by omega) HX4.out.p1 (by omega) (by omega) (by rw [F1.out]; omega)).mono ?_; rintro e5 w5 ⟨rfl, hx5⟩; rw [F1.out]; have c5 := (pc5 (p := ⟨e, 0, 0, 0, ByteArray.empty⟩) hx5.p1).2.1; dsimp only at c5; have z5 := frozen_blk hx5.p1.at 1; have hx5 : Sat E _ (pt h (.cells (⟨e, sq, 0, 0, ByteArray.empty⟩ : Pc).arr 23) :: isRf b s 12 0 :: pt q (.cells noPc.arr 23) :: L) := hx5.p1.setCell 1 (.int .i64 sq); have HX5 := Lib.hid hx5; clear hx5)
    | (go_at_call 54; with_reducible refine (refU4_to (p := 12) (q := 16) (by omega) HX5.out.p1 (by omega) (by omega)).mono ?_; rintro e6 w6 ⟨rfl, hx6⟩; rw [F2.out]; have c6 := (pc5 (p := ⟨e, sq, 0, 0, ByteArray.empty⟩) hx6.p1).2.2.1; dsimp only at c6; have z6 := frozen_blk hx6.p1.at 2; have hx6 : Sat E _ (pt h (.cells (⟨e, sq, t, 0, ByteArray.empty⟩ : Pc).arr 23) :: isRf b s 16 0 :: pt q (.cells noPc.arr 23) :: L) := hx6.p1.setCell 2 (.int .i64 t); have HX6 := Lib.hid hx6; clear hx6)
    | (go_at_call 54; with_reducible refine (refU4_to (p := 16) (q := 20) (by omega) HX6.out.p1 (by omega) (by omega)).mono ?_; rintro e7 w7 ⟨rfl, hx7⟩; rw [F3.out]; have c7 := (pc5 (p := ⟨e, sq, t, 0, ByteArray.empty⟩) hx7.p1).2.2.2.1; dsimp only at c7; have z7 := frozen_blk hx7.p1.at 3; have hx7 : Sat E _ (pt h (.cells (⟨e, sq, t, n, ByteArray.empty⟩ : Pc).arr 23) :: isRf b s 20 0 :: pt q (.cells noPc.arr 23) :: L) := hx7.p1.setCell 3 (.int .i64 n); have HX7 := Lib.hid hx7; clear hx7)
    | (go_at_call 54; with_reducible refine (refU4_to (p := 20) (q := 24) (by omega) HX7.out.p1 (by omega) (by omega)).mono ?_; rintro e8 w8 ⟨rfl, hx8⟩; rw [F4.out]; have k2 : w8.cell? ⟨b, 2, none⟩ = some (.int .i64 0) := cell_blk hx8.at 2; obtain ⟨d0, d1, d2, d3, d4⟩ := pc5 (p := ⟨e, sq, t, n, ByteArray.empty⟩) hx8.p1; dsimp only at d0 d1 d2 d3 d4; have f4 := frozen_blk hx8.p1.at 4; have HX8 := Lib.hid hx8; clear hx8)
    | (go_at_call 12; go_loud (have hx9 : Sat E (w8.setCell ⟨h, 4, none⟩ (.string X)) (pt h (.cells (⟨e, sq, t, n, X⟩ : Pc).arr 23) :: isRf b s 24 0 :: pt q (.cells noPc.arr 23) :: L) := HX8.out.p1.setCell 4 (.string X); have hck := refCheck_ok p (w8.setCell ⟨h, 4, none⟩ (.string X)) HPD.out; rw [Pc.val_arr, HPA.out] at hck; refine hck.mono ?_; clear hck d0 d1 d2 d3 d4 f4; rintro e9 w9 ⟨rfl, hb9⟩; rw [HOK.out]; have hx9 := hx9.ofBelow hb9; clear hb9; obtain ⟨d0, d1, d2, d3, d4⟩ := pc5 (p := ⟨e, sq, t, n, X⟩) hx9; dsimp only at d0 d1 d2 d3 d4; have HX9 := Lib.hid hx9; clear hx9))
    | (go_at_call 15; go_loud (have hby := refPc_ok HX9.out p HNP.out; rw [HPA.out] at hby; refine hby.mono ?_; clear hby d0 d1 d2 d3 d4; rintro e10 w10 ⟨rfl, hx10⟩; rw [HBT.out]; obtain ⟨d0, d1, d2, d3, d4⟩ := pc5 (p := ⟨e, sq, t, n, X⟩) hx10; dsimp only at d0 d1 d2 d3 d4; have HX10 := Lib.hid hx10; clear hx10))
    | (with_reducible refine wpList_store_pc HX10.out.p2 ⟨e, sq, t, n, X⟩ ?_ ?_; exact ⟨rfl, _, _, rfl, rfl, rfl⟩; intro w11 hx11; have HX11 := Lib.hid hx11; clear hx11))
  have HX11 : Hid (Sat E w11 (pt q (.cells p.arr 23) :: _)) := Lib.hid (by rw [HPE.out]; exact HX11.out)
  refine bodyPost_ret (v := .tuple #[.agg p.arr, .bool true]) ?_ rfl ⟨rfl, HX11.out.tail.tail.tail⟩
  rw [results_cell_tmp rfl]
  simp [asAddr, load_pc HX11.out, Result.andThen]

set_option maxRecDepth 100000 in
set_option maxHeartbeats 600000 in
theorem rpcGet_top {E W : World} {L : List HP} (x : Sat E W L) (s : ByteArray) (hz : s.size = 128) (hg : ¬ fld s 4 8 ≤ 9223372036854775807) : Calls Tryz.prog 16 #[.string s] W fun e w' => e = .returned (.tuple #[.agg noPc.arr, .bool false]) ∧ Sat E w' L := by
  have hx1 := zp x
  obtain ⟨q, hq⟩ : ∃ q, W.heap.size = q := ⟨_, rfl⟩
  rw [hq] at hx1
  obtain ⟨e, he⟩ : ∃ e, fld s 0 4 = e := ⟨_, rfl⟩
  have F0 := Lib.hid he
  obtain ⟨b, hb⟩ : ∃ b, q + 1 = b := ⟨_, rfl⟩
  obtain ⟨h, hh⟩ : ∃ b', b + 1 = b' := ⟨_, rfl⟩
  have hx1 := zq x
  rw [hq] at hx1
  have hx3 := zq (hx1.alloc (.cells #[.string s, .int .i64 0, .int .i64 0] 88))
  rw [World.size_alloc, World.size_alloc, hq, hb, hh] at hx3
  have HX3 : Hid (Sat E _ (pt h (.cells (⟨0, 0, 0, 0, ByteArray.empty⟩ : Pc).arr 23) :: isRf b s 0 0 :: pt q (.cells noPc.arr 23) :: L)) := Lib.hid hx3
  clear hx3
  have HX1 := Lib.hid hx1
  clear he hx1 x
  go_enter Tryz.func16, Tryz.ntmps16
  go_wp2_with (first
    | (go_at_call 54; with_reducible refine (refU4_to (p := 0) (q := 4) (by omega) HX3.out.p1 (by omega) (by omega)).mono ?_; rintro e4 w4 ⟨rfl, hx4⟩; rw [F0.out]; have c4 := (pc5 (p := ⟨0, 0, 0, 0, ByteArray.empty⟩) hx4.p1).1; dsimp only at c4; have z4 := frozen_blk hx4.p1.at 0; have hx4 : Sat E _ (pt h (.cells (⟨e, 0, 0, 0, ByteArray.empty⟩ : Pc).arr 23) :: isRf b s 4 0 :: pt q (.cells noPc.arr 23) :: L) := hx4.p1.setCell 0 (.int .i64 e); have HX4 := Lib.hid hx4; clear hx4)
    | (go_at_call 54; with_reducible refine (refU8_top (p := 4) HX4.out.p1 (by omega) (by omega) hg).mono ?_; rintro e5 w5 ⟨rfl, hx5⟩; have c5 := (pc5 (p := ⟨e, 0, 0, 0, ByteArray.empty⟩) hx5.p1).2.1; dsimp only at c5; have z5 := frozen_blk hx5.p1.at 1; have hx5 : Sat E _ (pt h (.cells (⟨e, 0, 0, 0, ByteArray.empty⟩ : Pc).arr 23) :: _) := hx5.p1.setCell 1 (.int .i64 0); have HX5 := Lib.hid hx5; clear hx5)
    | (go_at_call 54; with_reducible refine (refU4_bad (by omega) HX5.out.p1 (by omega) (by omega)).mono ?_; rintro e6 w6 ⟨rfl, hx6⟩; have c6 := (pc5 (p := ⟨e, 0, 0, 0, ByteArray.empty⟩) hx6.p1).2.2.1; dsimp only at c6; have z6 := frozen_blk hx6.p1.at 2; have hx6 : Sat E _ (pt h (.cells (⟨e, 0, 0, 0, ByteArray.empty⟩ : Pc).arr 23) :: _) := hx6.p1.setCell 2 (.int .i64 0); have HX6 := Lib.hid hx6; clear hx6)
    | (go_at_call 54; with_reducible refine (refU4_bad (by omega) HX6.out.p1 (by omega) (by omega)).mono ?_; rintro e7 w7 ⟨rfl, hx7⟩; have c7 := (pc5 (p := ⟨e, 0, 0, 0, ByteArray.empty⟩) hx7.p1).2.2.2.1; dsimp only at c7; have z7 := frozen_blk hx7.p1.at 3; have hx7 : Sat E _ (pt h (.cells (⟨e, 0, 0, 0, ByteArray.empty⟩ : Pc).arr 23) :: _) := hx7.p1.setCell 3 (.int .i64 0); have HX7 := Lib.hid hx7; clear hx7)
    | (go_at_call 54; with_reducible refine (refU4_bad (by omega) HX7.out.p1 (by omega) (by omega)).mono ?_; rintro e8 w8 ⟨rfl, hx8⟩; have k2 := cell_blk hx8.at 2; have HX8 := Lib.hid hx8; clear hx8)
    | (with_reducible refine wpList_store_pc HX8.out.p2 noPc ?_ ?_; exact ⟨rfl, _, _, rfl, rfl, rfl⟩; intro w9 hx9; have HX9 := Lib.hid hx9; clear hx9))
  refine bodyPost_ret (v := .tuple #[.agg noPc.arr, .bool false]) ?_ rfl ⟨rfl, HX9.out.tail.tail.tail⟩
  rw [results_cell_tmp rfl]
  simp [asAddr, load_pc HX9.out, Result.andThen]

theorem rpcGet_ok {E W : World} {L : List HP} (x : Sat E W L) (s : ByteArray) (hs : s.size ≤ 9223372036854775807) : Calls Tryz.prog 16 #[.string s] W fun e w' => e = .returned (.tuple #[.agg (getPcV s).arr, .bool (getPcB s)]) ∧ Sat E w' L := by
  by_cases hz : s.size = 128
  · by_cases hg : fld s 4 8 ≤ 9223372036854775807
    · by_cases hl : fld s 20 4 ≤ 100
      · cases hok : okPc (pcOfB s) with
        | false =>
          obtain ⟨e1, _, e2⟩ := getPc_no (getPc_none (s := s) fun h => by rw [hok] at h; exact absurd h.2.2.2.1 (by simp))
          rw [e1, e2]; exact rpcGet_bad x s hz hg hl hok
        | true =>
          by_cases hd : pcB (pcOfB s) = s
          · obtain ⟨e1, _, e2⟩ := getPc_yes (s := s) (p := pcOfB s) (by unfold getPc; rw [if_pos ⟨hz, hg, hl, hok, hd⟩])
            rw [e1, e2]; exact rpcGet_yes x s hz hg hl hok hd
          · obtain ⟨e1, _, e2⟩ := getPc_no (getPc_none (s := s) fun h => hd h.2.2.2.2)
            rw [e1, e2]; exact rpcGet_diff x s hz hg hl hok hd
      · obtain ⟨e1, _, e2⟩ := getPc_no (getPc_none (s := s) fun h => hl h.2.2.1)
        rw [e1, e2]; exact rpcGet_len x s hz hg hl
    · obtain ⟨e1, _, e2⟩ := getPc_no (getPc_none (s := s) fun h => hg h.2.1)
      rw [e1, e2]; exact rpcGet_top x s hz hg
  · obtain ⟨e1, _, e2⟩ := getPc_no (getPc_none (s := s) fun h => hz h.1)
    rw [e1, e2]; exact rpcGet_size x s hs hz

end Go.Proofs.YtmkpglabiikdeaaGreatDoor
