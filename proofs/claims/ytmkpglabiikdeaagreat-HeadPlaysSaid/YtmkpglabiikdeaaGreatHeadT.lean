/-
  posthouse/head: Get, walked.
-/
import Derived.Laws.ResultCell
import Derived.Test.YtmkpglabiikdeaaGreatHeadG
import Derived.Test.YtmkpglabiikdeaaGreatHeadD
namespace Go.Proofs.YtmkpglabiikdeaaGreat
open Go.RowKit PH

def getV (s : ByteArray) : Hd := match getP s with
  | some h => h
  | none => noHd
def getE (s : ByteArray) : Int := match getP s with
  | some _ => 0
  | none => 14
theorem getP_none {s : ByteArray} (h : ¬ (s.size = 128 ∧ fld s 4 8 ≤ 9223372036854775807 ∧ fld s 28 8 ≤ 9223372036854775807 ∧ okHd (hdOf s) = true ∧ headB (hdOf s) = s)) : getP s = none := by
  unfold getP; rw [if_neg h]

theorem load_hd {E w : World} {L : List HP} {q : Nat} {h : Hd} (x : Sat E w (pt q (.cells h.cells 33) :: L)) : (loadVar 33 ⟨q, 0, none⟩).run Tryz.prog w = .ok (.agg h.cells) w := by
  obtain ⟨d0, d1, d2, d3, d4, d5, d6⟩ := hd7 x
  go_simp
  rfl

set_option maxRecDepth 100000 in
set_option maxHeartbeats 1600000 in
theorem get_size {E W : World} {L : List HP} (x : Sat E W L) (s : ByteArray) (hs : s.size ≤ 9223372036854775807) (hz : s.size ≠ 128) : Calls Tryz.prog 35 #[.string s] W fun e w' => e = .returned (.tuple #[.agg noHd.cells, .int .i64 14]) ∧ Sat E w' L := by
  have hx1 := x.alloc (.cells #[.int .i64 0, .int .i64 0, .int .i64 0, .int .i64 0, .int .i64 0, .int .i64 0, .int .i64 0] 33)
  obtain ⟨q, hq⟩ : ∃ q, W.heap.size = q := ⟨_, rfl⟩
  rw [hq] at hx1
  have HX1 := Lib.hid hx1
  clear hx1 x
  have hb : ((s.size : Int) != 128) = true := by simp; omega
  go_enter Tryz.func35, Tryz.ntmps35
  go_wp2
  have hld : (loadVar 33 ⟨q, 0, none⟩).run Tryz.prog (W.alloc (.cells #[.int .i64 0, .int .i64 0, .int .i64 0, .int .i64 0, .int .i64 0, .int .i64 0, .int .i64 0] 33)) = .ok (.agg noHd.cells) (W.alloc (.cells #[.int .i64 0, .int .i64 0, .int .i64 0, .int .i64 0, .int .i64 0, .int .i64 0, .int .i64 0] 33)) := load_hd HX1.out
  refine bodyPost_ret (v := .tuple #[.agg noHd.cells, .int .i64 14]) ?_ rfl ⟨rfl, HX1.out.tail⟩
  rw [results_cell_tmp rfl]
  simp [asAddr, hld, Result.andThen]

theorem info85 : (Tryz.prog.info? 33).map (·.size) = some 7 := by kernel_rfl
theorem hd_one (h : Hd) : h.cells.all (·.oneCell') = true := all_oneCell_toArray (cs := [.int .i64 h.gen, .int .i64 h.epoch, .int .i64 h.since, .int .i64 h.area, .int .i64 h.size, .int .i64 h.next, .int .i64 h.pos]) (fun v hv => by
  simp at hv
  rcases hv with rfl | rfl | rfl | rfl | rfl | rfl | rfl <;> rfl)
theorem zx {E w : World} {L : List HP} (x : Sat E w L) : Sat E (w.alloc (.cells #[.int .i64 0, .int .i64 0, .int .i64 0, .int .i64 0, .int .i64 0, .int .i64 0, .int .i64 0] 33)) (pt w.heap.size (.cells noHd.cells 33) :: L) := x.alloc _

theorem rU32_to {E W : World} {L : List HP} {b p q : Nat} {S : ByteArray} (hq : p + 4 = q) (x : Sat E W (isRd b (left S p) 0 :: L)) (h : p + 4 ≤ S.size) (hs : S.size ≤ 9223372036854775807) :
    Calls Tryz.prog 53 #[.pointer (some ⟨b, 0, none⟩)] W fun e w' => e = .returned (.int .i64 (fld S p 4)) ∧ Sat E w' (isRd b (left S q) 0 :: L) := by
  subst hq; exact rU32_at x h hs
theorem rU64_to {E W : World} {L : List HP} {b p q : Nat} {S : ByteArray} (hq : p + 8 = q) (x : Sat E W (isRd b (left S p) 0 :: L)) (h : p + 8 ≤ S.size) (hs : S.size ≤ 9223372036854775807) (hn : fld S p 8 ≤ 9223372036854775807) :
    Calls Tryz.prog 54 #[.pointer (some ⟨b, 0, none⟩)] W fun e w' => e = .returned (.int .i64 (fld S p 8)) ∧ Sat E w' (isRd b (left S q) 0 :: L) := by
  subst hq; exact rU64_at x h hs hn
set_option maxRecDepth 100000 in
set_option maxHeartbeats 3200000 in
theorem get_top1 {E W : World} {L : List HP} (x : Sat E W L) (s : ByteArray) (hz : s.size = 128) (ht : ¬ fld s 4 8 ≤ 9223372036854775807) : Calls Tryz.prog 35 #[.string s] W fun e w' => e = .returned (.tuple #[.agg noHd.cells, .int .i64 14]) ∧ Sat E w' L := by
  have hx1 := zx x
  obtain ⟨q, hq⟩ : ∃ q, W.heap.size = q := ⟨_, rfl⟩
  rw [hq] at hx1
  have HX1 := Lib.hid hx1
  clear hx1 x
  have HT := Lib.hid ht
  clear ht
  have hs : s.size ≤ 9223372036854775807 := by omega
  have hse : ByteArray.empty.size ≤ 9223372036854775807 := by decide
  have hl0 := left_all s
  go_enter Tryz.func35, Tryz.ntmps35
  go_wp2_with (first
    | (go_at_call 52; with_reducible refine (rRead_ok HX1.out s).mono ?_; rintro e2 w2 ⟨b, rfl, hx2⟩; rw [← hl0] at hx2; have HX2 := Lib.hid hx2; clear hx2)
    | (go_at_call 53; with_reducible refine (rU32_to (p := 0) (q := 4) rfl HX2.out (by omega) hs).mono ?_; rintro e3 w3 ⟨rfl, hx3⟩; have HX3 := Lib.hid hx3; clear hx3)
    | (go_at_call 54; with_reducible refine (rU64_top (p := 4) HX3.out (by omega) hs HT.out).mono ?_; rintro e4 w4 ⟨rfl, hx4⟩; have HX4 := Lib.hid hx4; clear hx4)
    | (go_at_call 53; with_reducible refine (rU32_bad (by omega) HX4.out hse).mono ?_; rintro e5 w5 ⟨rfl, hx5⟩; have HX5 := Lib.hid hx5; clear hx5)
    | (go_at_call 53; with_reducible refine (rU32_bad (by omega) HX5.out hse).mono ?_; rintro e6 w6 ⟨rfl, hx6⟩; have HX6 := Lib.hid hx6; clear hx6)
    | (go_at_call 53; with_reducible refine (rU32_bad (by omega) HX6.out hse).mono ?_; rintro e7 w7 ⟨rfl, hx7⟩; have HX7 := Lib.hid hx7; clear hx7)
    | (go_at_call 53; with_reducible refine (rU32_bad (by omega) HX7.out hse).mono ?_; rintro e8 w8 ⟨rfl, hx8⟩; have HX8 := Lib.hid hx8; clear hx8)
    | (go_at_call 54; with_reducible refine (rU64_bad (by omega) HX8.out hse).mono ?_; rintro e9 w9 ⟨rfl, hx9⟩; have HX9 := Lib.hid hx9; clear hx9)
    | (go_at_call 53; with_reducible refine (rU32_bad (by omega) HX9.out hse).mono ?_; rintro e10 w10 ⟨rfl, hx10⟩; have HX10 := Lib.hid hx10; clear hx10))
  have HA := Lib.hid ((HX10.out.alloc (.cells #[.int .i64 0, .int .i64 0, .int .i64 0, .int .i64 0, .int .i64 0, .int .i64 0, .int .i64 0] 33)).drew)
  refine wp_region_planL [(0, true), (1, false), (2, true), (3, true), (4, true), (5, true), (6, true), (7, true), (8, true), (9, true), (10, true), (11, true), (12, true), (13, true), (14, true), (15, true), (16, true)] [] (by kernel_rfl) (by kernel_rfl) (by intro c a d v w h; cases d <;> exact h) trivial ?_
  simp only [planOps, List.getElem?_cons_zero, List.getElem?_cons_succ]
  iterate 1 (first | ((apply plan_pure rfl; (intro w1; go_simp; try go_bits); with_reducible rfl); try simp only [Act.put, List.setIfInBounds_toArray, List.set_cons_zero, List.set_cons_succ]) | ((refine' plan_load 0 rfl (by kernel_rfl) rfl ?_ ?_; rotate_left; (intro w1 hw1; go_simp; with_reducible rfl)); try simp only [Act.put, List.setIfInBounds_toArray, List.set_cons_zero, List.set_cons_succ]))
  refine plan_loud rfl (fun K hK => ?_); go_simp
  refine (rErr_ok HA.out.p1).mono ?_
  rintro e11 w11 ⟨rfl, rfl⟩
  dsimp only
  refine hK _ _ trivial ?_
  clear hK K
  try simp only [Act.put, List.setIfInBounds_toArray, List.set_cons_zero, List.set_cons_succ]
  iterate 15 (first | (apply plan_skip rfl; try simp only [Act.put, List.setIfInBounds_toArray, List.set_cons_zero, List.set_cons_succ]) | ((apply plan_pure rfl; (intro w1; go_simp; try go_bits); with_reducible rfl); try simp only [Act.put, List.setIfInBounds_toArray, List.set_cons_zero, List.set_cons_succ]) | ((refine' plan_load 0 rfl (by kernel_rfl) rfl ?_ ?_; rotate_left; (intro w1 hw1; go_simp; with_reducible rfl)); try simp only [Act.put, List.setIfInBounds_toArray, List.set_cons_zero, List.set_cons_succ]))
  refine plan_nil ?_
  have HZ := Lib.hid HA.out.p2
  go_wp2_with (refine wpList_store_mid rfl 33 _ _ rfl q 0 noHd.cells rfl rfl (pt_there HZ.out rfl) info85 (hd_one noHd) ?_)
  refine bodyPost_ret (v := .tuple #[.agg noHd.cells, .int .i64 14]) ?_ rfl ⟨rfl, (setCells_all HZ.out rfl).tail.tail.tail⟩
  rw [results_cell_tmp rfl]
  simp [asAddr, load_hd (setCells_all HZ.out rfl), Result.andThen]

set_option maxRecDepth 100000 in
set_option maxHeartbeats 3200000 in
theorem get_top2 {E W : World} {L : List HP} (x : Sat E W L) (s : ByteArray) (hz : s.size = 128) (hg : fld s 4 8 ≤ 9223372036854775807) (ht : ¬ fld s 28 8 ≤ 9223372036854775807) : Calls Tryz.prog 35 #[.string s] W fun e w' => e = .returned (.tuple #[.agg noHd.cells, .int .i64 14]) ∧ Sat E w' L := by
  have hx1 := zx x
  obtain ⟨q, hq⟩ : ∃ q, W.heap.size = q := ⟨_, rfl⟩
  rw [hq] at hx1
  have HX1 := Lib.hid hx1
  clear hx1 x
  have HG := Lib.hid hg
  clear hg
  have HT := Lib.hid ht
  clear ht
  have hs : s.size ≤ 9223372036854775807 := by omega
  have hse : ByteArray.empty.size ≤ 9223372036854775807 := by decide
  have hl0 := left_all s
  go_enter Tryz.func35, Tryz.ntmps35
  go_wp2_with (first
    | (go_at_call 52; with_reducible refine (rRead_ok HX1.out s).mono ?_; rintro e2 w2 ⟨b, rfl, hx2⟩; rw [← hl0] at hx2; have HX2 := Lib.hid hx2; clear hx2)
    | (go_at_call 53; with_reducible refine (rU32_to (p := 0) (q := 4) rfl HX2.out (by omega) hs).mono ?_; rintro e3 w3 ⟨rfl, hx3⟩; have HX3 := Lib.hid hx3; clear hx3)
    | (go_at_call 54; with_reducible refine (rU64_to (p := 4) (q := 12) rfl HX3.out (by omega) hs HG.out).mono ?_; rintro e4 w4 ⟨rfl, hx4⟩; have HX4 := Lib.hid hx4; clear hx4)
    | (go_at_call 53; with_reducible refine (rU32_to (p := 12) (q := 16) rfl HX4.out (by omega) hs).mono ?_; rintro e5 w5 ⟨rfl, hx5⟩; have HX5 := Lib.hid hx5; clear hx5)
    | (go_at_call 53; with_reducible refine (rU32_to (p := 16) (q := 20) rfl HX5.out (by omega) hs).mono ?_; rintro e6 w6 ⟨rfl, hx6⟩; have HX6 := Lib.hid hx6; clear hx6)
    | (go_at_call 53; with_reducible refine (rU32_to (p := 20) (q := 24) rfl HX6.out (by omega) hs).mono ?_; rintro e7 w7 ⟨rfl, hx7⟩; have HX7 := Lib.hid hx7; clear hx7)
    | (go_at_call 53; with_reducible refine (rU32_to (p := 24) (q := 28) rfl HX7.out (by omega) hs).mono ?_; rintro e8 w8 ⟨rfl, hx8⟩; have HX8 := Lib.hid hx8; clear hx8)
    | (go_at_call 54; with_reducible refine (rU64_top (p := 28) HX8.out (by omega) hs HT.out).mono ?_; rintro e9 w9 ⟨rfl, hx9⟩; have HX9 := Lib.hid hx9; clear hx9)
    | (go_at_call 53; with_reducible refine (rU32_bad (by omega) HX9.out hse).mono ?_; rintro e10 w10 ⟨rfl, hx10⟩; have HX10 := Lib.hid hx10; clear hx10))
  have HA := Lib.hid ((HX10.out.alloc (.cells #[.int .i64 (fld s 4 8), .int .i64 (fld s 12 4), .int .i64 (fld s 16 4), .int .i64 (fld s 20 4), .int .i64 (fld s 24 4), .int .i64 0, .int .i64 0] 33)).drew)
  refine wp_region_planL [(0, true), (1, false), (2, true), (3, true), (4, true), (5, true), (6, true), (7, true), (8, true), (9, true), (10, true), (11, true), (12, true), (13, true), (14, true), (15, true), (16, true)] [] (by kernel_rfl) (by kernel_rfl) (by intro c a d v w h; cases d <;> exact h) trivial ?_
  simp only [planOps, List.getElem?_cons_zero, List.getElem?_cons_succ]
  iterate 1 (first | ((apply plan_pure rfl; (intro w1; go_simp; try go_bits); with_reducible rfl); try simp only [Act.put, List.setIfInBounds_toArray, List.set_cons_zero, List.set_cons_succ]) | ((refine' plan_load 0 rfl (by kernel_rfl) rfl ?_ ?_; rotate_left; (intro w1 hw1; go_simp; with_reducible rfl)); try simp only [Act.put, List.setIfInBounds_toArray, List.set_cons_zero, List.set_cons_succ]))
  refine plan_loud rfl (fun K hK => ?_); go_simp
  refine (rErr_ok HA.out.p1).mono ?_
  rintro e11 w11 ⟨rfl, rfl⟩
  dsimp only
  refine hK _ _ trivial ?_
  clear hK K
  try simp only [Act.put, List.setIfInBounds_toArray, List.set_cons_zero, List.set_cons_succ]
  iterate 15 (first | (apply plan_skip rfl; try simp only [Act.put, List.setIfInBounds_toArray, List.set_cons_zero, List.set_cons_succ]) | ((apply plan_pure rfl; (intro w1; go_simp; try go_bits); with_reducible rfl); try simp only [Act.put, List.setIfInBounds_toArray, List.set_cons_zero, List.set_cons_succ]) | ((refine' plan_load 0 rfl (by kernel_rfl) rfl ?_ ?_; rotate_left; (intro w1 hw1; go_simp; with_reducible rfl)); try simp only [Act.put, List.setIfInBounds_toArray, List.set_cons_zero, List.set_cons_succ]))
  refine plan_nil ?_
  have HZ := Lib.hid HA.out.p2
  go_wp2_with (refine wpList_store_mid rfl 33 _ _ rfl q 0 noHd.cells rfl rfl (pt_there HZ.out rfl) info85 (hd_one noHd) ?_)
  refine bodyPost_ret (v := .tuple #[.agg noHd.cells, .int .i64 14]) ?_ rfl ⟨rfl, (setCells_all HZ.out rfl).tail.tail.tail⟩
  rw [results_cell_tmp rfl]
  simp [asAddr, load_hd (setCells_all HZ.out rfl), Result.andThen]

set_option maxRecDepth 100000 in
set_option maxHeartbeats 3200000 in
theorem get_form {E W : World} {L : List HP} (x : Sat E W L) (s : ByteArray) (hz : s.size = 128) (hg : fld s 4 8 ≤ 9223372036854775807) (hn : fld s 28 8 ≤ 9223372036854775807) (hc : okHd (hdOf s) = false) : Calls Tryz.prog 35 #[.string s] W fun e w' => e = .returned (.tuple #[.agg noHd.cells, .int .i64 14]) ∧ Sat E w' L := by
  have hx1 := zx x
  obtain ⟨q, hq⟩ : ∃ q, W.heap.size = q := ⟨_, rfl⟩
  rw [hq] at hx1
  have HX1 := Lib.hid hx1
  clear hx1 x
  have HG := Lib.hid hg
  clear hg
  have HN := Lib.hid hn
  clear hn
  have HC := Lib.hid hc
  clear hc
  have hs : s.size ≤ 9223372036854775807 := by omega
  have hse : ByteArray.empty.size ≤ 9223372036854775807 := by decide
  have hl0 := left_all s
  go_enter Tryz.func35, Tryz.ntmps35
  go_wp2_with (first
    | (go_at_call 52; with_reducible refine (rRead_ok HX1.out s).mono ?_; rintro e2 w2 ⟨b, rfl, hx2⟩; rw [← hl0] at hx2; have HX2 := Lib.hid hx2; clear hx2)
    | (go_at_call 53; with_reducible refine (rU32_to (p := 0) (q := 4) rfl HX2.out (by omega) hs).mono ?_; rintro e3 w3 ⟨rfl, hx3⟩; have HX3 := Lib.hid hx3; clear hx3)
    | (go_at_call 54; with_reducible refine (rU64_to (p := 4) (q := 12) rfl HX3.out (by omega) hs HG.out).mono ?_; rintro e4 w4 ⟨rfl, hx4⟩; have HX4 := Lib.hid hx4; clear hx4)
    | (go_at_call 53; with_reducible refine (rU32_to (p := 12) (q := 16) rfl HX4.out (by omega) hs).mono ?_; rintro e5 w5 ⟨rfl, hx5⟩; have HX5 := Lib.hid hx5; clear hx5)
    | (go_at_call 53; with_reducible refine (rU32_to (p := 16) (q := 20) rfl HX5.out (by omega) hs).mono ?_; rintro e6 w6 ⟨rfl, hx6⟩; have HX6 := Lib.hid hx6; clear hx6)
    | (go_at_call 53; with_reducible refine (rU32_to (p := 20) (q := 24) rfl HX6.out (by omega) hs).mono ?_; rintro e7 w7 ⟨rfl, hx7⟩; have HX7 := Lib.hid hx7; clear hx7)
    | (go_at_call 53; with_reducible refine (rU32_to (p := 24) (q := 28) rfl HX7.out (by omega) hs).mono ?_; rintro e8 w8 ⟨rfl, hx8⟩; have HX8 := Lib.hid hx8; clear hx8)
    | (go_at_call 54; with_reducible refine (rU64_to (p := 28) (q := 36) rfl HX8.out (by omega) hs HN.out).mono ?_; rintro e9 w9 ⟨rfl, hx9⟩; have HX9 := Lib.hid hx9; clear hx9)
    | (go_at_call 53; with_reducible refine (rU32_to (p := 36) (q := 40) rfl HX9.out (by omega) hs).mono ?_; rintro e10 w10 ⟨rfl, hx10⟩; have HX10 := Lib.hid hx10; clear hx10))
  have HA := Lib.hid ((HX10.out.alloc (.cells #[.int .i64 (fld s 4 8), .int .i64 (fld s 12 4), .int .i64 (fld s 16 4), .int .i64 (fld s 20 4), .int .i64 (fld s 24 4), .int .i64 (fld s 28 8), .int .i64 (fld s 36 4)] 33)).drew)
  obtain ⟨qh, hqh⟩ : ∃ qh, w10.heap.size = qh := ⟨_, rfl⟩
  rw [hqh] at HA
  refine wp_region_planL [(0, true), (1, false), (2, true), (3, true), (4, true), (5, false), (6, true), (7, true), (8, true), (9, true), (10, true), (11, true), (12, true), (13, true), (14, true), (15, true), (16, true)]
    [(17, fun w1 => w1.cell? ⟨qh, 0, none⟩ = some (.int .i64 (fld s 4 8)) ∧ w1.cell? ⟨qh, 1, none⟩ = some (.int .i64 (fld s 12 4)) ∧ w1.cell? ⟨qh, 2, none⟩ = some (.int .i64 (fld s 16 4)) ∧ w1.cell? ⟨qh, 3, none⟩ = some (.int .i64 (fld s 20 4)) ∧ w1.cell? ⟨qh, 4, none⟩ = some (.int .i64 (fld s 24 4)) ∧ w1.cell? ⟨qh, 5, none⟩ = some (.int .i64 (fld s 28 8)) ∧ w1.cell? ⟨qh, 6, none⟩ = some (.int .i64 (fld s 36 4)))] (by kernel_rfl) (by kernel_rfl) (by intro c a d v w h; cases d <;> exact h) ?_ ?_
  · exact ⟨hd7 HA.out, trivial⟩
  simp only [planOps, List.getElem?_cons_zero, List.getElem?_cons_succ]
  iterate 1 (first | ((apply plan_pure rfl; (intro w1; go_simp; try go_bits); with_reducible rfl); try simp only [Act.put, List.setIfInBounds_toArray, List.set_cons_zero, List.set_cons_succ]) | ((refine' plan_load 0 rfl (by kernel_rfl) rfl ?_ ?_; rotate_left; (intro w1 hw1; go_simp; with_reducible rfl)); try simp only [Act.put, List.setIfInBounds_toArray, List.set_cons_zero, List.set_cons_succ]))
  refine plan_loud rfl (fun K hK => ?_); go_simp
  refine (rErr_ok HA.out.p1).mono ?_
  rintro e11 w11 ⟨rfl, rfl⟩
  dsimp only
  refine hK _ _ ⟨hd7 HA.out, trivial⟩ ?_
  clear hK K
  try simp only [Act.put, List.setIfInBounds_toArray, List.set_cons_zero, List.set_cons_succ]
  iterate 3 (first | ((apply plan_pure rfl; (intro w1; go_simp; try go_bits); with_reducible rfl); try simp only [Act.put, List.setIfInBounds_toArray, List.set_cons_zero, List.set_cons_succ]) | ((refine' plan_load 0 rfl (by kernel_rfl) rfl ?_ ?_; rotate_left; (intro w1 hw1; go_simp; with_reducible rfl)); try simp only [Act.put, List.setIfInBounds_toArray, List.set_cons_zero, List.set_cons_succ]))
  have hck := headCheck_ok HA.out (hdOf s)
  rw [HC.out] at hck
  refine plan_loud rfl (fun K hK => ?_); go_simp
  refine hck.mono ?_
  rintro e12 w12 ⟨rfl, hx12⟩
  dsimp only
  have HB := Lib.hid hx12
  clear hx12
  refine hK _ _ ⟨hd7 HB.out, trivial⟩ ?_
  clear hK K
  try simp only [Act.put, List.setIfInBounds_toArray, List.set_cons_zero, List.set_cons_succ]
  iterate 11 (first | (apply plan_skip rfl; try simp only [Act.put, List.setIfInBounds_toArray, List.set_cons_zero, List.set_cons_succ]) | ((apply plan_pure rfl; (intro w1; go_simp; try go_bits); with_reducible rfl); try simp only [Act.put, List.setIfInBounds_toArray, List.set_cons_zero, List.set_cons_succ]) | ((refine' plan_load 0 rfl (by kernel_rfl) rfl ?_ ?_; rotate_left; (intro w1 hw1; go_simp; with_reducible rfl)); try simp only [Act.put, List.setIfInBounds_toArray, List.set_cons_zero, List.set_cons_succ]))
  refine plan_nil ?_
  have HZ := Lib.hid HB.out.p2
  go_wp2_with (refine wpList_store_mid rfl 33 _ _ rfl q 0 noHd.cells rfl rfl (pt_there HZ.out rfl) info85 (hd_one noHd) ?_)
  refine bodyPost_ret (v := .tuple #[.agg noHd.cells, .int .i64 14]) ?_ rfl ⟨rfl, (setCells_all HZ.out rfl).tail.tail.tail⟩
  rw [results_cell_tmp rfl]
  simp [asAddr, load_hd (setCells_all HZ.out rfl), Result.andThen]

end Go.Proofs.YtmkpglabiikdeaaGreat

