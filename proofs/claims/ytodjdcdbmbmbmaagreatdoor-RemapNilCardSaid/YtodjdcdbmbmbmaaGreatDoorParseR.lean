/-
  The document's parser of handles, walked: it answers as posthouse/fh's.
-/
import Derived.Test.YtodjdcdbmbmbmaaGreatDoorParse
namespace Go.Proofs.YtodjdcdbmbmbmaaGreatDoor
open Go.RowKit PH

set_option maxRecDepth 100000 in
set_option maxHeartbeats 800000 in
theorem refParse_size {E W : World} {L : List HP} (x : Sat E W L) (s : ByteArray) (hz : s.size ≠ 16) :
    Calls Tryz.prog 5 #[.string s] W fun e w' => e = .returned (.tuple #[.agg (pt3 0 0 0), .int .i64 14]) ∧ Sat E w' L := by
  have HX := Lib.hid (x.alloc (.cells (pt3 0 0 0) 24))
  clear x
  go_enter Tryz.func5, Tryz.ntmps5
  go_wp2
  have z := HX.out
  exact post_row2 rfl W.heap.size 24 _ (0, 0) _ rfl z.at Tryz.underlying24 rfl (isz3 0 0 0) rfl ⟨rfl, z.tail⟩
set_option maxRecDepth 100000 in
set_option maxHeartbeats 1600000 in
theorem refParse_bad {E W : World} {L : List HP} (x : Sat E W L) (s : ByteArray) (hz : s.size = 16) (k0 k1 k2 k3 : Nat) (e0 : byt s 0 = k0) (e1 : byt s 1 = k1) (e2 : byt s 2 = k2) (e3 : byt s 3 = k3) (h : ¬ ((k0 = 1 ∨ k0 = 2) ∧ k1 = 0 ∧ k2 = 0 ∧ k3 = 0)) :
    Calls Tryz.prog 5 #[.string s] W fun e w' => e = .returned (.tuple #[.agg (pt3 0 0 0), .int .i64 14]) ∧ Sat E w' L := by
  have HX := Lib.hid (x.alloc (.cells (pt3 0 0 0) 24))
  clear x
  have b0 := byt_get s (i := 0) (by omega)
  have b1 := byt_get s (i := 1) (by omega)
  have b2 := byt_get s (i := 2) (by omega)
  have b3 := byt_get s (i := 3) (by omega)
  rw [e0] at b0
  rw [e1] at b1
  rw [e2] at b2
  rw [e3] at b3
  clear e0 e1 e2 e3
  by_cases c0 : k0 = 1 ∨ k0 = 2
  · by_cases c1 : k1 = 0
    · subst c1
      by_cases c2 : k2 = 0
      · subst c2
        have c3 : ¬ k3 = 0 := fun c => h ⟨c0, rfl, rfl, c⟩
        clear h
        rcases c0 with rfl | rfl
        · go_enter Tryz.func5, Tryz.ntmps5
          go_wp2
          exact post_row2 rfl W.heap.size 24 _ (0, 0) _ rfl HX.out.at Tryz.underlying24 rfl (isz3 0 0 0) rfl ⟨rfl, HX.out.tail⟩
        · go_enter Tryz.func5, Tryz.ntmps5
          go_wp2
          exact post_row2 rfl W.heap.size 24 _ (0, 0) _ rfl HX.out.at Tryz.underlying24 rfl (isz3 0 0 0) rfl ⟨rfl, HX.out.tail⟩
      · clear h
        rcases c0 with rfl | rfl
        · go_enter Tryz.func5, Tryz.ntmps5
          go_wp2
          exact post_row2 rfl W.heap.size 24 _ (0, 0) _ rfl HX.out.at Tryz.underlying24 rfl (isz3 0 0 0) rfl ⟨rfl, HX.out.tail⟩
        · go_enter Tryz.func5, Tryz.ntmps5
          go_wp2
          exact post_row2 rfl W.heap.size 24 _ (0, 0) _ rfl HX.out.at Tryz.underlying24 rfl (isz3 0 0 0) rfl ⟨rfl, HX.out.tail⟩
    · clear h
      rcases c0 with rfl | rfl
      · go_enter Tryz.func5, Tryz.ntmps5
        go_wp2
        exact post_row2 rfl W.heap.size 24 _ (0, 0) _ rfl HX.out.at Tryz.underlying24 rfl (isz3 0 0 0) rfl ⟨rfl, HX.out.tail⟩
      · go_enter Tryz.func5, Tryz.ntmps5
        go_wp2
        exact post_row2 rfl W.heap.size 24 _ (0, 0) _ rfl HX.out.at Tryz.underlying24 rfl (isz3 0 0 0) rfl ⟨rfl, HX.out.tail⟩
  · have n1 : ¬ k0 = 1 := fun c => c0 (.inl c)
    have n2 : ¬ k0 = 2 := fun c => c0 (.inr c)
    clear h c0
    go_enter Tryz.func5, Tryz.ntmps5
    go_wp2
    exact post_row2 rfl W.heap.size 24 _ (0, 0) _ rfl HX.out.at Tryz.underlying24 rfl (isz3 0 0 0) rfl ⟨rfl, HX.out.tail⟩
set_option maxRecDepth 100000 in
set_option maxHeartbeats 1600000 in
theorem refParse_fit {E W : World} {L : List HP} (x : Sat E W L) (s : ByteArray) (hz : s.size = 16) (k0 : Nat) (e0 : byt s 0 = k0) (e1 : byt s 1 = 0) (e2 : byt s 2 = 0) (e3 : byt s 3 = 0) (hk : k0 = 1 ∨ k0 = 2) :
    Calls Tryz.prog 5 #[.string s] W fun e w' => e = .returned (pR s) ∧ Sat E w' L := by
  obtain ⟨q, hq⟩ : ∃ q, W.heap.size = q := ⟨_, rfl⟩
  have hx0 := x.alloc (.cells (pt3 0 0 0) 24)
  rw [hq] at hx0
  have hs8 : s.size ≤ 9223372036854775000 := by omega
  have HXA := Lib.hid hx0
  obtain ⟨b, hb⟩ : ∃ b, (W.alloc (.cells (pt3 0 0 0) 24)).heap.size = b := ⟨_, rfl⟩
  have hx1 : Sat E ((W.alloc (.cells (pt3 0 0 0) 24)).alloc (.cells #[.string s, .int .i64 4, .int .i64 0] 43)) (isRf b s 4 0 :: pt q (.cells (pt3 0 0 0) 24) :: L) := by
    have := hx0.alloc (.cells #[.string s, .int .i64 ((4 : Nat) : Int), .int .i64 0] 43)
    rw [hb] at this
    exact this
  have HX := Lib.hid hx1
  have b0 := byt_get s (i := 0) (by omega)
  have b1 := byt_get s (i := 1) (by omega)
  have b2 := byt_get s (i := 2) (by omega)
  have b3 := byt_get s (i := 3) (by omega)
  have hpR : pR s = if fld s 8 8 ≤ 9223372036854775807 then .tuple #[.agg (pt3 k0 (fld s 4 4) (fld s 8 8)), .int .i64 0] else .tuple #[.agg (pt3 0 0 0), .int .i64 14] := by
    by_cases c : fld s 8 8 ≤ 9223372036854775807
    · rw [pR, if_pos ⟨by rw [e0]; exact hk, e1, e2, e3, c⟩, if_pos c, e0]
    · rw [pR, if_neg fun h => c h.2.2.2.2, if_neg c]
  rw [hpR]
  rw [e0] at b0
  rw [e1] at b1
  rw [e2] at b2
  rw [e3] at b3
  clear e0 e1 e2 e3 hpR hx0 hx1 x HXA
  by_cases c : fld s 8 8 ≤ 9223372036854775807
  · rw [if_pos c]
    have HC := Lib.hid c
    clear c
    rcases hk with rfl | rfl
    · go_enter Tryz.func5, Tryz.ntmps5
      go_wp2_with (first
        | (go_at_call 13; with_reducible refine (refU4_at (p := 4) HX.out (by omega) hs8).mono ?_; rintro e3 w3 ⟨rfl, hx3⟩; have HX3 := Lib.hid hx3; clear hx3)
        | (go_at_call 13; with_reducible refine (refU8_at (p := 4 + 4) HX3.out (by omega) hs8 HC.out).mono ?_; rintro e4 w4 ⟨rfl, hx4⟩; have HX4 := Lib.hid hx4; have g2 := cell_blk hx4.at 2; have hy := hx4.p1; have d0 := frozen_blk hy.at 0; have d1 := frozen_blk hy.at 1; have d2 := frozen_blk hy.at 2; have f0 := cell_blk hy.at 0; have f1 := cell_blk hy.at 1; have f2 := cell_blk hy.at 2; clear hx4 hy))
      have z := ((HX4.out.p1.setCell 0 (.int .i64 1)).setCell 1 (.int .i64 (fld s 4 4))).setCell 2 (.int .i64 (fld s 8 8))
      exact post_row2 rfl q 24 _ (0, 0) _ rfl z.at Tryz.underlying24 rfl (isz3 0 0 0) rfl ⟨rfl, z.tail.tail⟩
    · go_enter Tryz.func5, Tryz.ntmps5
      go_wp2_with (first
        | (go_at_call 13; with_reducible refine (refU4_at (p := 4) HX.out (by omega) hs8).mono ?_; rintro e3 w3 ⟨rfl, hx3⟩; have HX3 := Lib.hid hx3; clear hx3)
        | (go_at_call 13; with_reducible refine (refU8_at (p := 4 + 4) HX3.out (by omega) hs8 HC.out).mono ?_; rintro e4 w4 ⟨rfl, hx4⟩; have HX4 := Lib.hid hx4; have g2 := cell_blk hx4.at 2; have hy := hx4.p1; have d0 := frozen_blk hy.at 0; have d1 := frozen_blk hy.at 1; have d2 := frozen_blk hy.at 2; have f0 := cell_blk hy.at 0; have f1 := cell_blk hy.at 1; have f2 := cell_blk hy.at 2; clear hx4 hy))
      have z := ((HX4.out.p1.setCell 0 (.int .i64 2)).setCell 1 (.int .i64 (fld s 4 4))).setCell 2 (.int .i64 (fld s 8 8))
      exact post_row2 rfl q 24 _ (0, 0) _ rfl z.at Tryz.underlying24 rfl (isz3 0 0 0) rfl ⟨rfl, z.tail.tail⟩
  · rw [if_neg c]
    have HC := Lib.hid c
    clear c
    rcases hk with rfl | rfl
    · go_enter Tryz.func5, Tryz.ntmps5
      go_wp2_with (first
        | (go_at_call 13; with_reducible refine (refU4_at (p := 4) HX.out (by omega) hs8).mono ?_; rintro e3 w3 ⟨rfl, hx3⟩; have HX3 := Lib.hid hx3; clear hx3)
        | (go_at_call 13; with_reducible refine (refU8_top (p := 4 + 4) HX3.out (by omega) hs8 HC.out).mono ?_; rintro e4 w4 ⟨rfl, hx4⟩; have HX4 := Lib.hid hx4; have g2 := cell_blk hx4.at 2; have hy := hx4.p1; have d0 := frozen_blk hy.at 0; have d1 := frozen_blk hy.at 1; have d2 := frozen_blk hy.at 2; have f0 := cell_blk hy.at 0; have f1 := cell_blk hy.at 1; have f2 := cell_blk hy.at 2; clear hx4 hy))
      have z := ((HX4.out.p1.setCell 0 (.int .i64 0)).setCell 1 (.int .i64 0)).setCell 2 (.int .i64 0)
      exact post_row2 rfl q 24 _ (0, 0) _ rfl z.at Tryz.underlying24 rfl (isz3 0 0 0) rfl ⟨rfl, z.tail.tail⟩
    · go_enter Tryz.func5, Tryz.ntmps5
      go_wp2_with (first
        | (go_at_call 13; with_reducible refine (refU4_at (p := 4) HX.out (by omega) hs8).mono ?_; rintro e3 w3 ⟨rfl, hx3⟩; have HX3 := Lib.hid hx3; clear hx3)
        | (go_at_call 13; with_reducible refine (refU8_top (p := 4 + 4) HX3.out (by omega) hs8 HC.out).mono ?_; rintro e4 w4 ⟨rfl, hx4⟩; have HX4 := Lib.hid hx4; have g2 := cell_blk hx4.at 2; have hy := hx4.p1; have d0 := frozen_blk hy.at 0; have d1 := frozen_blk hy.at 1; have d2 := frozen_blk hy.at 2; have f0 := cell_blk hy.at 0; have f1 := cell_blk hy.at 1; have f2 := cell_blk hy.at 2; clear hx4 hy))
      have z := ((HX4.out.p1.setCell 0 (.int .i64 0)).setCell 1 (.int .i64 0)).setCell 2 (.int .i64 0)
      exact post_row2 rfl q 24 _ (0, 0) _ rfl z.at Tryz.underlying24 rfl (isz3 0 0 0) rfl ⟨rfl, z.tail.tail⟩
theorem refParse_ok {E W : World} {L : List HP} (x : Sat E W L) (s : ByteArray) (hz : s.size = 16) :
    Calls Tryz.prog 5 #[.string s] W fun e w' => e = .returned (pR s) ∧ Sat E w' L := by
  by_cases h : (byt s 0 = 1 ∨ byt s 0 = 2) ∧ byt s 1 = 0 ∧ byt s 2 = 0 ∧ byt s 3 = 0
  · exact refParse_fit x s hz _ rfl h.2.1 h.2.2.1 h.2.2.2 h.1
  · rw [pR_no fun k => h ⟨k.1, k.2.1, k.2.2.1, k.2.2.2.1⟩]
    exact refParse_bad x s hz _ _ _ _ rfl rfl rfl rfl h
end Go.Proofs.YtodjdcdbmbmbmaaGreatDoor
