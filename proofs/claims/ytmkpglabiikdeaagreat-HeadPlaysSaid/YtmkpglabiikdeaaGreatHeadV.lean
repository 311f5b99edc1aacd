/-
  The document's Get of a head, walked.
-/
import Derived.Test.YtmkpglabiikdeaaGreatHeadU
import Derived.Test.YtmkpglabiikdeaaGreatHeadR
namespace Go.Proofs.YtmkpglabiikdeaaGreat
open Go.RowKit PH

theorem refU4_to {E W : World} {L : List HP} {b p q : Nat} {S : ByteArray} (hq : p + 4 = q) (x : Sat E W (isRf b S p 0 :: L)) (h : p + 4 ≤ S.size) (hs : S.size ≤ 9223372036854775000) :
    Calls Tryz.prog 58 #[.pointer (some ⟨b, 0, none⟩), .int .i64 4] W fun e w' => e = .returned (.int .i64 (fld S p 4)) ∧ Sat E w' (isRf b S q 0 :: L) := by
  subst hq; exact refU4_at x h hs
theorem refU8_to {E W : World} {L : List HP} {b p q : Nat} {S : ByteArray} (hq : p + 8 = q) (x : Sat E W (isRf b S p 0 :: L)) (h : p + 8 ≤ S.size) (hs : S.size ≤ 9223372036854775000) (hn : fld S p 8 ≤ 9223372036854775807) :
    Calls Tryz.prog 58 #[.pointer (some ⟨b, 0, none⟩), .int .i64 8] W fun e w' => e = .returned (.int .i64 (fld S p 8)) ∧ Sat E w' (isRf b S q 0 :: L) := by
  subst hq; exact refU8_at x h hs hn
theorem toList_ne {T s : ByteArray} (h : T ≠ s) : (T.toList == s.toList) = false := by
  rw [← beq_toListBytes]
  cases hb : T == s with
  | false => rfl
  | true =>
    have : (T.data == s.data) = true := hb
    exact absurd (ByteArray.ext (eq_of_beq this)) h
attribute [local irreducible] fld headB
set_option maxRecDepth 100000 in
set_option maxHeartbeats 3200000 in
theorem rget_top1 {E W : World} {L : List HP} (x : Sat E W L) (s : ByteArray) (hz : s.size = 128) (ht : ¬ fld s 4 8 ≤ 9223372036854775807) : Calls Tryz.prog 37 #[.string s] W fun e w' => e = .returned (.tuple #[.agg noHd.cells, .bool false]) ∧ Sat E w' L := by
  have hx1 := zx x
  obtain ⟨q, hq⟩ : ∃ q, W.heap.size = q := ⟨_, rfl⟩
  rw [hq] at hx1
  have hx2 := (hx1.alloc (.cells #[.string s, .int .i64 4, .int .i64 0] 113))
  obtain ⟨b, hb⟩ : ∃ b, (W.alloc (.cells #[.int .i64 0, .int .i64 0, .int .i64 0, .int .i64 0, .int .i64 0, .int .i64 0, .int .i64 0] 33)).heap.size = b := ⟨_, rfl⟩
  rw [hb] at hx2
  have hx3 := (hx2.alloc (.cells #[.int .i64 0, .int .i64 0, .int .i64 0, .int .i64 0, .int .i64 0, .int .i64 0, .int .i64 0] 33)).p1
  rw [World.size_alloc, hb] at hx3
  have HX0 : Hid (Sat E _ (isRf b s 4 0 :: _)) := Lib.hid hx3
  clear hx1 hx2 hx3 x
  have HT := Lib.hid ht
  clear ht
  have hs : s.size ≤ 9223372036854775000 := by omega
  obtain ⟨h, hh⟩ : ∃ h, b + 1 = h := ⟨_, rfl⟩
  rw [hh] at HX0
  go_enter Tryz.func37, Tryz.ntmps37
  go_wp2_with (first
    | (go_at_call 58; with_reducible refine (refU8_top (p := 4) HX0.out (by omega) hs HT.out).mono ?_; rintro e1 w1 ⟨rfl, hx1⟩; have c1 := cell_blk hx1.p1.at 0; have z1 := frozen_blk hx1.p1.at 0; have hx1 := (hx1.p1.setCell 0 (.int .i64 0)).p1; simp only [List.setIfInBounds_toArray, List.set_cons_zero, List.set_cons_succ] at hx1; have HX1 := Lib.hid hx1; clear hx1)
    | (go_at_call 58; with_reducible refine (refU4_bad (by omega) HX1.out (by omega) hs).mono ?_; rintro e2 w2 ⟨rfl, hx2⟩; have c2 := cell_blk hx2.p1.at 1; have z2 := frozen_blk hx2.p1.at 1; have hx2 := (hx2.p1.setCell 1 (.int .i64 0)).p1; simp only [List.setIfInBounds_toArray, List.set_cons_zero, List.set_cons_succ] at hx2; have HX2 := Lib.hid hx2; clear hx2)
    | (go_at_call 58; with_reducible refine (refU4_bad (by omega) HX2.out (by omega) hs).mono ?_; rintro e3 w3 ⟨rfl, hx3⟩; have c3 := cell_blk hx3.p1.at 2; have z3 := frozen_blk hx3.p1.at 2; have hx3 := (hx3.p1.setCell 2 (.int .i64 0)).p1; simp only [List.setIfInBounds_toArray, List.set_cons_zero, List.set_cons_succ] at hx3; have HX3 := Lib.hid hx3; clear hx3)
    | (go_at_call 58; with_reducible refine (refU4_bad (by omega) HX3.out (by omega) hs).mono ?_; rintro e4 w4 ⟨rfl, hx4⟩; have c4 := cell_blk hx4.p1.at 3; have z4 := frozen_blk hx4.p1.at 3; have hx4 := (hx4.p1.setCell 3 (.int .i64 0)).p1; simp only [List.setIfInBounds_toArray, List.set_cons_zero, List.set_cons_succ] at hx4; have HX4 := Lib.hid hx4; clear hx4)
    | (go_at_call 58; with_reducible refine (refU4_bad (by omega) HX4.out (by omega) hs).mono ?_; rintro e5 w5 ⟨rfl, hx5⟩; have c5 := cell_blk hx5.p1.at 4; have z5 := frozen_blk hx5.p1.at 4; have hx5 := (hx5.p1.setCell 4 (.int .i64 0)).p1; simp only [List.setIfInBounds_toArray, List.set_cons_zero, List.set_cons_succ] at hx5; have HX5 := Lib.hid hx5; clear hx5)
    | (go_at_call 58; with_reducible refine (refU8_bad (by omega) HX5.out (by omega) hs).mono ?_; rintro e6 w6 ⟨rfl, hx6⟩; have c6 := cell_blk hx6.p1.at 5; have z6 := frozen_blk hx6.p1.at 5; have hx6 := (hx6.p1.setCell 5 (.int .i64 0)).p1; simp only [List.setIfInBounds_toArray, List.set_cons_zero, List.set_cons_succ] at hx6; have HX6 := Lib.hid hx6; clear hx6)
    | (go_at_call 58; with_reducible refine (refU4_bad (by omega) HX6.out (by omega) hs).mono ?_; rintro e7 w7 ⟨rfl, hx7⟩; have e2 := cell_blk hx7.at 2; obtain ⟨d0, d1, d2, d3, d4, d5, d6⟩ := hd7 hx7.p1; have c7 := cell_blk hx7.p1.at 6; have z7 := frozen_blk hx7.p1.at 6; have hx7 := (hx7.p1.setCell 6 (.int .i64 0)).p1; simp only [List.setIfInBounds_toArray, List.set_cons_zero, List.set_cons_succ] at hx7; have HX7 := Lib.hid hx7; clear hx7)
    | (refine wpList_store_mid rfl 33 _ _ rfl q 0 noHd.cells rfl rfl (pt_there HX7.out.p2 rfl) info85 (hd_one noHd) ?_))
  refine bodyPost_ret (v := .tuple #[.agg noHd.cells, .bool false]) ?_ rfl ⟨rfl, (setCells_all HX7.out.p2 rfl).tail.tail.tail⟩
  rw [results_cell_tmp rfl]
  simp [asAddr, load_hd (setCells_all HX7.out.p2 rfl), Result.andThen]

set_option maxRecDepth 100000 in
set_option maxHeartbeats 3200000 in
theorem rget_top2 {E W : World} {L : List HP} (x : Sat E W L) (s : ByteArray) (hz : s.size = 128) (hg : fld s 4 8 ≤ 9223372036854775807) (ht : ¬ fld s 28 8 ≤ 9223372036854775807) : Calls Tryz.prog 37 #[.string s] W fun e w' => e = .returned (.tuple #[.agg noHd.cells, .bool false]) ∧ Sat E w' L := by
  have hx1 := zx x
  obtain ⟨q, hq⟩ : ∃ q, W.heap.size = q := ⟨_, rfl⟩
  rw [hq] at hx1
  have hx2 := (hx1.alloc (.cells #[.string s, .int .i64 4, .int .i64 0] 113))
  obtain ⟨b, hb⟩ : ∃ b, (W.alloc (.cells #[.int .i64 0, .int .i64 0, .int .i64 0, .int .i64 0, .int .i64 0, .int .i64 0, .int .i64 0] 33)).heap.size = b := ⟨_, rfl⟩
  rw [hb] at hx2
  have hx3 := (hx2.alloc (.cells #[.int .i64 0, .int .i64 0, .int .i64 0, .int .i64 0, .int .i64 0, .int .i64 0, .int .i64 0] 33)).p1
  rw [World.size_alloc, hb] at hx3
  have HX0 : Hid (Sat E _ (isRf b s 4 0 :: _)) := Lib.hid hx3
  clear hx1 hx2 hx3 x
  have HG := Lib.hid hg
  clear hg
  have HT := Lib.hid ht
  clear ht
  have hs : s.size ≤ 9223372036854775000 := by omega
  obtain ⟨h, hh⟩ : ∃ h, b + 1 = h := ⟨_, rfl⟩
  rw [hh] at HX0
  go_enter Tryz.func37, Tryz.ntmps37
  go_wp2_with (first
    | (go_at_call 58; with_reducible refine (refU8_to (p := 4) (q := 12) rfl HX0.out (by omega) hs HG.out).mono ?_; rintro e1 w1 ⟨rfl, hx1⟩; have c1 := cell_blk hx1.p1.at 0; have z1 := frozen_blk hx1.p1.at 0; have hx1 := (hx1.p1.setCell 0 (.int .i64 (fld s 4 8))).p1; simp only [List.setIfInBounds_toArray, List.set_cons_zero, List.set_cons_succ] at hx1; have HX1 := Lib.hid hx1; clear hx1)
    | (go_at_call 58; with_reducible refine (refU4_to (p := 12) (q := 16) rfl HX1.out (by omega) hs).mono ?_; rintro e2 w2 ⟨rfl, hx2⟩; have c2 := cell_blk hx2.p1.at 1; have z2 := frozen_blk hx2.p1.at 1; have hx2 := (hx2.p1.setCell 1 (.int .i64 (fld s 12 4))).p1; simp only [List.setIfInBounds_toArray, List.set_cons_zero, List.set_cons_succ] at hx2; have HX2 := Lib.hid hx2; clear hx2)
    | (go_at_call 58; with_reducible refine (refU4_to (p := 16) (q := 20) rfl HX2.out (by omega) hs).mono ?_; rintro e3 w3 ⟨rfl, hx3⟩; have c3 := cell_blk hx3.p1.at 2; have z3 := frozen_blk hx3.p1.at 2; have hx3 := (hx3.p1.setCell 2 (.int .i64 (fld s 16 4))).p1; simp only [List.setIfInBounds_toArray, List.set_cons_zero, List.set_cons_succ] at hx3; have HX3 := Lib.hid hx3; clear hx3)
    | (go_at_call 58; with_reducible refine (refU4_to (p := 20) (q := 24) rfl HX3.out (by omega) hs).mono ?_; rintro e4 w4 ⟨rfl, hx4⟩; have c4 := cell_blk hx4.p1.at 3; have z4 := frozen_blk hx4.p1.at 3; have hx4 := (hx4.p1.setCell 3 (.int .i64 (fld s 20 4))).p1; simp only [List.setIfInBounds_toArray, List.set_cons_zero, List.set_cons_succ] at hx4; have HX4 := Lib.hid hx4; clear hx4)
    | (go_at_call 58; with_reducible refine (refU4_to (p := 24) (q := 28) rfl HX4.out (by omega) hs).mono ?_; rintro e5 w5 ⟨rfl, hx5⟩; have c5 := cell_blk hx5.p1.at 4; have z5 := frozen_blk hx5.p1.at 4; have hx5 := (hx5.p1.setCell 4 (.int .i64 (fld s 24 4))).p1; simp only [List.setIfInBounds_toArray, List.set_cons_zero, List.set_cons_succ] at hx5; have HX5 := Lib.hid hx5; clear hx5)
    | (go_at_call 58; with_reducible refine (refU8_top (p := 28) HX5.out (by omega) hs HT.out).mono ?_; rintro e6 w6 ⟨rfl, hx6⟩; have c6 := cell_blk hx6.p1.at 5; have z6 := frozen_blk hx6.p1.at 5; have hx6 := (hx6.p1.setCell 5 (.int .i64 0)).p1; simp only [List.setIfInBounds_toArray, List.set_cons_zero, List.set_cons_succ] at hx6; have HX6 := Lib.hid hx6; clear hx6)
    | (go_at_call 58; with_reducible refine (refU4_bad (by omega) HX6.out (by omega) hs).mono ?_; rintro e7 w7 ⟨rfl, hx7⟩; have e2 := cell_blk hx7.at 2; obtain ⟨d0, d1, d2, d3, d4, d5, d6⟩ := hd7 hx7.p1; have c7 := cell_blk hx7.p1.at 6; have z7 := frozen_blk hx7.p1.at 6; have hx7 := (hx7.p1.setCell 6 (.int .i64 0)).p1; simp only [List.setIfInBounds_toArray, List.set_cons_zero, List.set_cons_succ] at hx7; have HX7 := Lib.hid hx7; clear hx7)
    | (refine wpList_store_mid rfl 33 _ _ rfl q 0 noHd.cells rfl rfl (pt_there HX7.out.p2 rfl) info85 (hd_one noHd) ?_))
  refine bodyPost_ret (v := .tuple #[.agg noHd.cells, .bool false]) ?_ rfl ⟨rfl, (setCells_all HX7.out.p2 rfl).tail.tail.tail⟩
  rw [results_cell_tmp rfl]
  simp [asAddr, load_hd (setCells_all HX7.out.p2 rfl), Result.andThen]

set_option maxRecDepth 100000 in
set_option maxHeartbeats 3200000 in
theorem rget_form {E W : World} {L : List HP} (x : Sat E W L) (s : ByteArray) (hz : s.size = 128) (hg : fld s 4 8 ≤ 9223372036854775807) (hn : fld s 28 8 ≤ 9223372036854775807) (hc : okHd (hdOf s) = false) : Calls Tryz.prog 37 #[.string s] W fun e w' => e = .returned (.tuple #[.agg noHd.cells, .bool false]) ∧ Sat E w' L := by
  have hx1 := zx x
  obtain ⟨q, hq⟩ : ∃ q, W.heap.size = q := ⟨_, rfl⟩
  rw [hq] at hx1
  have hx2 := (hx1.alloc (.cells #[.string s, .int .i64 4, .int .i64 0] 113))
  obtain ⟨b, hb⟩ : ∃ b, (W.alloc (.cells #[.int .i64 0, .int .i64 0, .int .i64 0, .int .i64 0, .int .i64 0, .int .i64 0, .int .i64 0] 33)).heap.size = b := ⟨_, rfl⟩
  rw [hb] at hx2
  have hx3 := (hx2.alloc (.cells #[.int .i64 0, .int .i64 0, .int .i64 0, .int .i64 0, .int .i64 0, .int .i64 0, .int .i64 0] 33)).p1
  rw [World.size_alloc, hb] at hx3
  have HX0 : Hid (Sat E _ (isRf b s 4 0 :: _)) := Lib.hid hx3
  clear hx1 hx2 hx3 x
  have HG := Lib.hid hg
  clear hg
  have HN := Lib.hid hn
  clear hn
  have HC := Lib.hid hc
  clear hc
  have hs : s.size ≤ 9223372036854775000 := by omega
  obtain ⟨h, hh⟩ : ∃ h, b + 1 = h := ⟨_, rfl⟩
  rw [hh] at HX0
  go_enter Tryz.func37, Tryz.ntmps37
  go_wp2_with (first
    | (go_at_call 58; with_reducible refine (refU8_to (p := 4) (q := 12) rfl HX0.out (by omega) hs HG.out).mono ?_; rintro e1 w1 ⟨rfl, hx1⟩; have c1 := cell_blk hx1.p1.at 0; have z1 := frozen_blk hx1.p1.at 0; have hx1 := (hx1.p1.setCell 0 (.int .i64 (fld s 4 8))).p1; simp only [List.setIfInBounds_toArray, List.set_cons_zero, List.set_cons_succ] at hx1; have HX1 := Lib.hid hx1; clear hx1)
    | (go_at_call 58; with_reducible refine (refU4_to (p := 12) (q := 16) rfl HX1.out (by omega) hs).mono ?_; rintro e2 w2 ⟨rfl, hx2⟩; have c2 := cell_blk hx2.p1.at 1; have z2 := frozen_blk hx2.p1.at 1; have hx2 := (hx2.p1.setCell 1 (.int .i64 (fld s 12 4))).p1; simp only [List.setIfInBounds_toArray, List.set_cons_zero, List.set_cons_succ] at hx2; have HX2 := Lib.hid hx2; clear hx2)
    | (go_at_call 58; with_reducible refine (refU4_to (p := 16) (q := 20) rfl HX2.out (by omega) hs).mono ?_; rintro e3 w3 ⟨rfl, hx3⟩; have c3 := cell_blk hx3.p1.at 2; have z3 := frozen_blk hx3.p1.at 2; have hx3 := (hx3.p1.setCell 2 (.int .i64 (fld s 16 4))).p1; simp only [List.setIfInBounds_toArray, List.set_cons_zero, List.set_cons_succ] at hx3; have HX3 := Lib.hid hx3; clear hx3)
    | (go_at_call 58; with_reducible refine (refU4_to (p := 20) (q := 24) rfl HX3.out (by omega) hs).mono ?_; rintro e4 w4 ⟨rfl, hx4⟩; have c4 := cell_blk hx4.p1.at 3; have z4 := frozen_blk hx4.p1.at 3; have hx4 := (hx4.p1.setCell 3 (.int .i64 (fld s 20 4))).p1; simp only [List.setIfInBounds_toArray, List.set_cons_zero, List.set_cons_succ] at hx4; have HX4 := Lib.hid hx4; clear hx4)
    | (go_at_call 58; with_reducible refine (refU4_to (p := 24) (q := 28) rfl HX4.out (by omega) hs).mono ?_; rintro e5 w5 ⟨rfl, hx5⟩; have c5 := cell_blk hx5.p1.at 4; have z5 := frozen_blk hx5.p1.at 4; have hx5 := (hx5.p1.setCell 4 (.int .i64 (fld s 24 4))).p1; simp only [List.setIfInBounds_toArray, List.set_cons_zero, List.set_cons_succ] at hx5; have HX5 := Lib.hid hx5; clear hx5)
    | (go_at_call 58; with_reducible refine (refU8_to (p := 28) (q := 36) rfl HX5.out (by omega) hs HN.out).mono ?_; rintro e6 w6 ⟨rfl, hx6⟩; have c6 := cell_blk hx6.p1.at 5; have z6 := frozen_blk hx6.p1.at 5; have hx6 := (hx6.p1.setCell 5 (.int .i64 (fld s 28 8))).p1; simp only [List.setIfInBounds_toArray, List.set_cons_zero, List.set_cons_succ] at hx6; have HX6 := Lib.hid hx6; clear hx6)
    | (go_at_call 58; with_reducible refine (refU4_to (p := 36) (q := 40) rfl HX6.out (by omega) hs).mono ?_; rintro e7 w7 ⟨rfl, hx7⟩; have e2 := cell_blk hx7.at 2; obtain ⟨d0, d1, d2, d3, d4, d5, d6⟩ := hd7 hx7.p1; have c7 := cell_blk hx7.p1.at 6; have z7 := frozen_blk hx7.p1.at 6; have hx7 := (hx7.p1.setCell 6 (.int .i64 (fld s 36 4))).p1; simp only [List.setIfInBounds_toArray, List.set_cons_zero, List.set_cons_succ] at hx7; have HX7 := Lib.hid hx7; clear hx7)
    | (go_at_call 40; have hck := refHdCheck_ok HX7.out (hdOf s); rw [hdOf_cells, HC.out] at hck; with_reducible refine hck.mono ?_; clear hck; rintro e8 w8 ⟨rfl, hx8⟩; clear d0 d1 d2 d3 d4 d5 d6; obtain ⟨d0, d1, d2, d3, d4, d5, d6⟩ := hd7 hx8.p1; have HX8 := Lib.hid hx8; clear hx8)
    | (refine wpList_store_mid rfl 33 _ _ rfl q 0 noHd.cells rfl rfl (pt_there HX8.out.p2 rfl) info85 (hd_one noHd) ?_))
  refine bodyPost_ret (v := .tuple #[.agg noHd.cells, .bool false]) ?_ rfl ⟨rfl, (setCells_all HX8.out.p2 rfl).tail.tail.tail⟩
  rw [results_cell_tmp rfl]
  simp [asAddr, load_hd (setCells_all HX8.out.p2 rfl), Result.andThen]

set_option maxRecDepth 100000 in
set_option maxHeartbeats 3200000 in
theorem rget_no {E W : World} {L : List HP} (x : Sat E W L) (s : ByteArray) (hz : s.size = 128) (hg : fld s 4 8 ≤ 9223372036854775807) (hn : fld s 28 8 ≤ 9223372036854775807) (hc : okHd (hdOf s) = true) (hv : headB (hdOf s) ≠ s) : Calls Tryz.prog 37 #[.string s] W fun e w' => e = .returned (.tuple #[.agg noHd.cells, .bool false]) ∧ Sat E w' L := by
  have hx1 := zx x
  obtain ⟨q, hq⟩ : ∃ q, W.heap.size = q := ⟨_, rfl⟩
  rw [hq] at hx1
  have hx2 := (hx1.alloc (.cells #[.string s, .int .i64 4, .int .i64 0] 113))
  obtain ⟨b, hb⟩ : ∃ b, (W.alloc (.cells #[.int .i64 0, .int .i64 0, .int .i64 0, .int .i64 0, .int .i64 0, .int .i64 0, .int .i64 0] 33)).heap.size = b := ⟨_, rfl⟩
  rw [hb] at hx2
  have hx3 := (hx2.alloc (.cells #[.int .i64 0, .int .i64 0, .int .i64 0, .int .i64 0, .int .i64 0, .int .i64 0, .int .i64 0] 33)).p1
  rw [World.size_alloc, hb] at hx3
  have HX0 : Hid (Sat E _ (isRf b s 4 0 :: _)) := Lib.hid hx3
  clear hx1 hx2 hx3 x
  have HG := Lib.hid hg
  clear hg
  have HN := Lib.hid hn
  clear hn
  have HC := Lib.hid hc
  clear hc
  have HV := Lib.hid hv
  clear hv
  obtain ⟨T, hT⟩ : ∃ T, headB (hdOf s) = T := ⟨_, rfl⟩
  have HT := Lib.hid hT
  have hne := HV.out
  rw [hT] at hne
  have hbe := toList_ne hne
  clear hT
  have hs : s.size ≤ 9223372036854775000 := by omega
  obtain ⟨h, hh⟩ : ∃ h, b + 1 = h := ⟨_, rfl⟩
  rw [hh] at HX0
  go_enter Tryz.func37, Tryz.ntmps37
  go_wp2_with (first
    | (go_at_call 58; with_reducible refine (refU8_to (p := 4) (q := 12) rfl HX0.out (by omega) hs HG.out).mono ?_; rintro e1 w1 ⟨rfl, hx1⟩; have c1 := cell_blk hx1.p1.at 0; have z1 := frozen_blk hx1.p1.at 0; have hx1 := (hx1.p1.setCell 0 (.int .i64 (fld s 4 8))).p1; simp only [List.setIfInBounds_toArray, List.set_cons_zero, List.set_cons_succ] at hx1; have HX1 := Lib.hid hx1; clear hx1)
    | (go_at_call 58; with_reducible refine (refU4_to (p := 12) (q := 16) rfl HX1.out (by omega) hs).mono ?_; rintro e2 w2 ⟨rfl, hx2⟩; have c2 := cell_blk hx2.p1.at 1; have z2 := frozen_blk hx2.p1.at 1; have hx2 := (hx2.p1.setCell 1 (.int .i64 (fld s 12 4))).p1; simp only [List.setIfInBounds_toArray, List.set_cons_zero, List.set_cons_succ] at hx2; have HX2 := Lib.hid hx2; clear hx2)
    | (go_at_call 58; with_reducible refine (refU4_to (p := 16) (q := 20) rfl HX2.out (by omega) hs).mono ?_; rintro e3 w3 ⟨rfl, hx3⟩; have c3 := cell_blk hx3.p1.at 2; have z3 := frozen_blk hx3.p1.at 2; have hx3 := (hx3.p1.setCell 2 (.int .i64 (fld s 16 4))).p1; simp only [List.setIfInBounds_toArray, List.set_cons_zero, List.set_cons_succ] at hx3; have HX3 := Lib.hid hx3; clear hx3)
    | (go_at_call 58; with_reducible refine (refU4_to (p := 20) (q := 24) rfl HX3.out (by omega) hs).mono ?_; rintro e4 w4 ⟨rfl, hx4⟩; have c4 := cell_blk hx4.p1.at 3; have z4 := frozen_blk hx4.p1.at 3; have hx4 := (hx4.p1.setCell 3 (.int .i64 (fld s 20 4))).p1; simp only [List.setIfInBounds_toArray, List.set_cons_zero, List.set_cons_succ] at hx4; have HX4 := Lib.hid hx4; clear hx4)
    | (go_at_call 58; with_reducible refine (refU4_to (p := 24) (q := 28) rfl HX4.out (by omega) hs).mono ?_; rintro e5 w5 ⟨rfl, hx5⟩; have c5 := cell_blk hx5.p1.at 4; have z5 := frozen_blk hx5.p1.at 4; have hx5 := (hx5.p1.setCell 4 (.int .i64 (fld s 24 4))).p1; simp only [List.setIfInBounds_toArray, List.set_cons_zero, List.set_cons_succ] at hx5; have HX5 := Lib.hid hx5; clear hx5)
    | (go_at_call 58; with_reducible refine (refU8_to (p := 28) (q := 36) rfl HX5.out (by omega) hs HN.out).mono ?_; rintro e6 w6 ⟨rfl, hx6⟩; have c6 := cell_blk hx6.p1.at 5; have z6 := frozen_blk hx6.p1.at 5; have hx6 := (hx6.p1.setCell 5 (.int .i64 (fld s 28 8))).p1; simp only [List.setIfInBounds_toArray, List.set_cons_zero, List.set_cons_succ] at hx6; have HX6 := Lib.hid hx6; clear hx6)
    | (go_at_call 58; with_reducible refine (refU4_to (p := 36) (q := 40) rfl HX6.out (by omega) hs).mono ?_; rintro e7 w7 ⟨rfl, hx7⟩; have e2 := cell_blk hx7.at 2; obtain ⟨d0, d1, d2, d3, d4, d5, d6⟩ := hd7 hx7.p1; have c7 := cell_blk hx7.p1.at 6; have z7 := frozen_blk hx7.p1.at 6; have hx7 := (hx7.p1.setCell 6 (.int .i64 (fld s 36 4))).p1; simp only [List.setIfInBounds_toArray, List.set_cons_zero, List.set_cons_succ] at hx7; have HX7 := Lib.hid hx7; clear hx7)
    | (go_at_call 40; have hck := refHdCheck_ok HX7.out (hdOf s); rw [hdOf_cells, HC.out] at hck; with_reducible refine hck.mono ?_; clear hck; rintro e8 w8 ⟨rfl, hx8⟩; clear d0 d1 d2 d3 d4 d5 d6; obtain ⟨d0, d1, d2, d3, d4, d5, d6⟩ := hd7 hx8.p1; have HX8 := Lib.hid hx8; clear hx8)
    | (go_at_call 41; have hby := refBytes_ok HX8.out (hdOf s) (hdOf_nat HG.out HN.out); rw [hdOf_cells, HT.out] at hby; with_reducible refine hby.mono ?_; clear hby; rintro e9 w9 ⟨rfl, hx9⟩; clear d0 d1 d2 d3 d4 d5 d6; obtain ⟨d0, d1, d2, d3, d4, d5, d6⟩ := hd7 hx9.p1; have HX9 := Lib.hid hx9; clear hx9)
    | (refine wpList_store_mid rfl 33 _ _ rfl q 0 noHd.cells rfl rfl (pt_there HX9.out.p2 rfl) info85 (hd_one noHd) ?_))
  refine bodyPost_ret (v := .tuple #[.agg noHd.cells, .bool false]) ?_ rfl ⟨rfl, (setCells_all HX9.out.p2 rfl).tail.tail.tail⟩
  rw [results_cell_tmp rfl]
  simp [asAddr, load_hd (setCells_all HX9.out.p2 rfl), Result.andThen]

set_option maxRecDepth 100000 in
set_option maxHeartbeats 3200000 in
theorem rget_yes {E W : World} {L : List HP} (x : Sat E W L) (s : ByteArray) (hz : s.size = 128) (hg : fld s 4 8 ≤ 9223372036854775807) (hn : fld s 28 8 ≤ 9223372036854775807) (hc : okHd (hdOf s) = true) (hv : headB (hdOf s) = s) : Calls Tryz.prog 37 #[.string s] W fun e w' => e = .returned (.tuple #[.agg (hdOf s).cells, .bool true]) ∧ Sat E w' L := by
  have hx1 := zx x
  obtain ⟨q, hq⟩ : ∃ q, W.heap.size = q := ⟨_, rfl⟩
  rw [hq] at hx1
  have hx2 := (hx1.alloc (.cells #[.string s, .int .i64 4, .int .i64 0] 113))
  obtain ⟨b, hb⟩ : ∃ b, (W.alloc (.cells #[.int .i64 0, .int .i64 0, .int .i64 0, .int .i64 0, .int .i64 0, .int .i64 0, .int .i64 0] 33)).heap.size = b := ⟨_, rfl⟩
  rw [hb] at hx2
  have hx3 := (hx2.alloc (.cells #[.int .i64 0, .int .i64 0, .int .i64 0, .int .i64 0, .int .i64 0, .int .i64 0, .int .i64 0] 33)).p1
  rw [World.size_alloc, hb] at hx3
  have HX0 : Hid (Sat E _ (isRf b s 4 0 :: _)) := Lib.hid hx3
  clear hx1 hx2 hx3 x
  have HG := Lib.hid hg
  clear hg
  have HN := Lib.hid hn
  clear hn
  have HC := Lib.hid hc
  clear hc
  have HV := Lib.hid hv
  clear hv
  have HT := HV
  have hs : s.size ≤ 9223372036854775000 := by omega
  obtain ⟨h, hh⟩ : ∃ h, b + 1 = h := ⟨_, rfl⟩
  rw [hh] at HX0
  go_enter Tryz.func37, Tryz.ntmps37
  go_wp2_with (first
    | (go_at_call 58; with_reducible refine (refU8_to (p := 4) (q := 12) rfl HX0.out (by omega) hs HG.out).mono ?_; rintro e1 w1 ⟨rfl, hx1⟩; have c1 := cell_blk hx1.p1.at 0; have z1 := frozen_blk hx1.p1.at 0; have hx1 := (hx1.p1.setCell 0 (.int .i64 (fld s 4 8))).p1; simp only [List.setIfInBounds_toArray, List.set_cons_zero, List.set_cons_succ] at hx1; have HX1 := Lib.hid hx1; clear hx1)
    | (go_at_call 58; with_reducible refine (refU4_to (p := 12) (q := 16) rfl HX1.out (by omega) hs).mono ?_; rintro e2 w2 ⟨rfl, hx2⟩; have c2 := cell_blk hx2.p1.at 1; have z2 := frozen_blk hx2.p1.at 1; have hx2 := (hx2.p1.setCell 1 (.int .i64 (fld s 12 4))).p1; simp only [List.setIfInBounds_toArray, List.set_cons_zero, List.set_cons_succ] at hx2; have HX2 := Lib.hid hx2; clear hx2)
    | (go_at_call 58; with_reducible refine (refU4_to (p := 16) (q := 20) rfl HX2.out (by omega) hs).mono ?_; rintro e3 w3 ⟨rfl, hx3⟩; have c3 := cell_blk hx3.p1.at 2; have z3 := frozen_blk hx3.p1.at 2; have hx3 := (hx3.p1.setCell 2 (.int .i64 (fld s 16 4))).p1; simp only [List.setIfInBounds_toArray, List.set_cons_zero, List.set_cons_succ] at hx3; have HX3 := Lib.hid hx3; clear hx3)
    | (go_at_call 58; with_reducible refine (refU4_to (p := 20) (q := 24) rfl HX3.out (by omega) hs).mono ?_; rintro e4 w4 ⟨rfl, hx4⟩; have c4 := cell_blk hx4.p1.at 3; have z4 := frozen_blk hx4.p1.at 3; have hx4 := (hx4.p1.setCell 3 (.int .i64 (fld s 20 4))).p1; simp only [List.setIfInBounds_toArray, List.set_cons_zero, List.set_cons_succ] at hx4; have HX4 := Lib.hid hx4; clear hx4)
    | (go_at_call 58; with_reducible refine (refU4_to (p := 24) (q := 28) rfl HX4.out (by omega) hs).mono ?_; rintro e5 w5 ⟨rfl, hx5⟩; have c5 := cell_blk hx5.p1.at 4; have z5 := frozen_blk hx5.p1.at 4; have hx5 := (hx5.p1.setCell 4 (.int .i64 (fld s 24 4))).p1; simp only [List.setIfInBounds_toArray, List.set_cons_zero, List.set_cons_succ] at hx5; have HX5 := Lib.hid hx5; clear hx5)
    | (go_at_call 58; with_reducible refine (refU8_to (p := 28) (q := 36) rfl HX5.out (by omega) hs HN.out).mono ?_; rintro e6 w6 ⟨rfl, hx6⟩; have c6 := cell_blk hx6.p1.at 5; have z6 := frozen_blk hx6.p1.at 5; have hx6 := (hx6.p1.setCell 5 (.int .i64 (fld s 28 8))).p1; simp only [List.setIfInBounds_toArray, List.set_cons_zero, List.set_cons_succ] at hx6; have HX6 := Lib.hid hx6; clear hx6)
    | (go_at_call 58; with_reducible refine (refU4_to (p := 36) (q := 40) rfl HX6.out (by omega) hs).mono ?_; rintro e7 w7 ⟨rfl, hx7⟩; have e2 := cell_blk hx7.at 2; obtain ⟨d0, d1, d2, d3, d4, d5, d6⟩ := hd7 hx7.p1; have c7 := cell_blk hx7.p1.at 6; have z7 := frozen_blk hx7.p1.at 6; have hx7 := (hx7.p1.setCell 6 (.int .i64 (fld s 36 4))).p1; simp only [List.setIfInBounds_toArray, List.set_cons_zero, List.set_cons_succ] at hx7; have HX7 := Lib.hid hx7; clear hx7)
    | (go_at_call 40; have hck := refHdCheck_ok HX7.out (hdOf s); rw [hdOf_cells, HC.out] at hck; with_reducible refine hck.mono ?_; clear hck; rintro e8 w8 ⟨rfl, hx8⟩; clear d0 d1 d2 d3 d4 d5 d6; obtain ⟨d0, d1, d2, d3, d4, d5, d6⟩ := hd7 hx8.p1; have HX8 := Lib.hid hx8; clear hx8)
    | (go_at_call 41; have hby := refBytes_ok HX8.out (hdOf s) (hdOf_nat HG.out HN.out); rw [hdOf_cells, HT.out] at hby; with_reducible refine hby.mono ?_; clear hby; rintro e9 w9 ⟨rfl, hx9⟩; clear d0 d1 d2 d3 d4 d5 d6; obtain ⟨d0, d1, d2, d3, d4, d5, d6⟩ := hd7 hx9.p1; have HX9 := Lib.hid hx9; clear hx9; clear HX0 HX1 HX2 HX3 HX4 HX5 HX6 HX7 HX8 HG HN HC; have hcl := hdOf_cells s; generalize ((fld s 4 8 : Nat) : Int) = n0 at *; generalize ((fld s 12 4 : Nat) : Int) = n1 at *; generalize ((fld s 16 4 : Nat) : Int) = n2 at *; generalize ((fld s 20 4 : Nat) : Int) = n3 at *; generalize ((fld s 24 4 : Nat) : Int) = n4 at *; generalize ((fld s 28 8 : Nat) : Int) = n5 at *; generalize ((fld s 36 4 : Nat) : Int) = n6 at *)
    | (refine wpList_store_mid rfl 33 _ _ rfl q 0 #[.int .i64 n0, .int .i64 n1, .int .i64 n2, .int .i64 n3, .int .i64 n4, .int .i64 n5, .int .i64 n6] rfl rfl (pt_there HX9.out.p2 rfl) info85 (one7 _ _ _ _ _ _ _) ?_))
  have hfin := setCells_all (C := #[.int .i64 n0, .int .i64 n1, .int .i64 n2, .int .i64 n3, .int .i64 n4, .int .i64 n5, .int .i64 n6]) HX9.out.p2 rfl
  have hlf := load7 hfin
  refine bodyPost_ret (v := .tuple #[.agg #[.int .i64 n0, .int .i64 n1, .int .i64 n2, .int .i64 n3, .int .i64 n4, .int .i64 n5, .int .i64 n6], .bool true]) ?_ rfl ⟨by rw [hcl], hfin.tail.tail.tail⟩
  rw [results_cell_tmp rfl]
  simp only [asAddr, Array.getD_eq_getD_getElem?, List.getElem?_toArray, List.getElem?_cons_succ, List.getElem?_cons_zero, Option.getD_some, Sem.run_pure, Result.andThen_ok, hlf]

set_option maxRecDepth 100000 in
set_option maxHeartbeats 1600000 in
theorem rget_size {E W : World} {L : List HP} (x : Sat E W L) (s : ByteArray) (hs : s.size ≤ 9223372036854775807) (hz : s.size ≠ 128) : Calls Tryz.prog 37 #[.string s] W fun e w' => e = .returned (.tuple #[.agg noHd.cells, .bool false]) ∧ Sat E w' L := by
  have hx1 := x.alloc (.cells #[.int .i64 0, .int .i64 0, .int .i64 0, .int .i64 0, .int .i64 0, .int .i64 0, .int .i64 0] 33)
  obtain ⟨q, hq⟩ : ∃ q, W.heap.size = q := ⟨_, rfl⟩
  rw [hq] at hx1
  have HX1 := Lib.hid hx1
  clear hx1 x
  have hb : ((s.size : Int) != 128) = true := by simp; omega
  go_enter Tryz.func37, Tryz.ntmps37
  go_wp2
  have hld : (loadVar 33 ⟨q, 0, none⟩).run Tryz.prog (W.alloc (.cells #[.int .i64 0, .int .i64 0, .int .i64 0, .int .i64 0, .int .i64 0, .int .i64 0, .int .i64 0] 33)) = .ok (.agg noHd.cells) (W.alloc (.cells #[.int .i64 0, .int .i64 0, .int .i64 0, .int .i64 0, .int .i64 0, .int .i64 0, .int .i64 0] 33)) := load_hd HX1.out
  refine bodyPost_ret (v := .tuple #[.agg noHd.cells, .bool false]) ?_ rfl ⟨rfl, HX1.out.tail⟩
  rw [results_cell_tmp rfl]
  simp [asAddr, hld, Result.andThen]
theorem refGet_ok {E W : World} {L : List HP} (x : Sat E W L) (s : ByteArray) (hs : s.size ≤ 9223372036854775807) : Calls Tryz.prog 37 #[.string s] W fun e w' => e = .returned (.tuple #[.agg (getV s).cells, .bool (getP s).isSome]) ∧ Sat E w' L := by
  have no : getP s = none → getV s = noHd ∧ (getP s).isSome = false := fun h => by unfold getV; rw [h]; exact ⟨rfl, rfl⟩
  by_cases hz : s.size = 128
  · by_cases hg : fld s 4 8 ≤ 9223372036854775807
    · by_cases hn : fld s 28 8 ≤ 9223372036854775807
      · cases hc : okHd (hdOf s) with
        | false =>
          obtain ⟨e1, e2⟩ := no (getP_none (fun h => by rw [h.2.2.2.1] at hc; cases hc))
          rw [e1, e2]
          exact rget_form x s hz hg hn hc
        | true =>
          by_cases hb : headB (hdOf s) = s
          · have hp : getP s = some (hdOf s) := by unfold getP; rw [if_pos ⟨hz, hg, hn, hc, hb⟩]
            have e1 : getV s = hdOf s := by unfold getV; rw [hp]
            have e2 : (getP s).isSome = true := by rw [hp]; rfl
            rw [e1, e2]
            exact rget_yes x s hz hg hn hc hb
          · obtain ⟨e1, e2⟩ := no (getP_none (fun h => hb h.2.2.2.2))
            rw [e1, e2]
            exact rget_no x s hz hg hn hc hb
      · obtain ⟨e1, e2⟩ := no (getP_none (fun h => hn h.2.2.1))
        rw [e1, e2]
        exact rget_top2 x s hz hg hn
    · obtain ⟨e1, e2⟩ := no (getP_none (fun h => hg h.2.1))
      rw [e1, e2]
      exact rget_top1 x s hz hg
  · obtain ⟨e1, e2⟩ := no (getP_none (fun h => hz h.1))
    rw [e1, e2]
    exact rget_size x s hs hz
end Go.Proofs.YtmkpglabiikdeaaGreat

