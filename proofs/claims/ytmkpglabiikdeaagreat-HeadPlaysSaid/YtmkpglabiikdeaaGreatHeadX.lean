/-
  posthouse/head: Save on a disk, walked.
-/
import Derived.Test.YtmkpglabiikdeaaGreatHeadW
namespace Go.Proofs.YtmkpglabiikdeaaGreat
open Go.RowKit PH

set_option maxRecDepth 100000 in
set_option maxHeartbeats 1600000 in
theorem save_find {E W : World} {L : List HP} {b : Nat} {D : Dk} {at_ f0 f1 f2 f3 f4 f5 f6 h0 h1 h2 h3 h4 h5 h6 fe : Int} (x : Sat E W (isDisk b D :: L)) (ok : OkD D) (a0 : -1000 ≤ at_) (a1 : at_ ≤ 1000) (hR : ∀ i, (readV D i).size ≤ 9223372036854775807)
    (hF : findR D at_ = (⟨f0, f1, f2, f3, f4, f5, f6⟩, fe)) (e0 : fe ≠ 0) (e32 : fe ≠ 32) :
    Calls Tryz.prog 16 #[.pointer (some ⟨b, 0, none⟩), .int .i64 at_, .agg (Hd.cells ⟨h0, h1, h2, h3, h4, h5, h6⟩)] W fun e w' => e = .returned (.tuple #[.agg (noHd).cells, .int .i64 fe]) ∧ Sat E w' (isDisk b D :: L) := by
  have hx0 := x.alloc (.cells #[.int .i64 h0, .int .i64 h1, .int .i64 h2, .int .i64 h3, .int .i64 h4, .int .i64 h5, .int .i64 h6] 33)
  obtain ⟨qh, hqh⟩ : ∃ q, W.heap.size = q := ⟨_, rfl⟩
  rw [hqh] at hx0
  have hx1 := zx hx0
  rw [World.size_alloc, hqh] at hx1
  obtain ⟨q, hq⟩ : ∃ q, qh + 1 = q := ⟨_, rfl⟩
  rw [hq] at hx1
  have hfd := find_ok hx1.p2 ok at_ a0 a1 hR
  rw [hF] at hfd
  dsimp only at hfd
  have HFD := Lib.hid hfd
  have HX0 := Lib.hid hx1
  have b0 : (fe != 0) = true := by simp [e0]
  have b32 : (fe != 32) = true := by simp [e32]
  clear x hx0 hx1 hfd hF hR
  rw [show Hd.cells ⟨h0, h1, h2, h3, h4, h5, h6⟩ = #[.int .i64 h0, .int .i64 h1, .int .i64 h2, .int .i64 h3, .int .i64 h4, .int .i64 h5, .int .i64 h6] from rfl]
  go_enter Tryz.func16, Tryz.ntmps16
  go_wp2_with (first
    | (go_at_call 14; with_reducible refine HFD.out.mono ?_; rintro e1 w1 ⟨rfl, hx1⟩; obtain ⟨p, hp⟩ : ∃ p, w1.heap.size = p := ⟨_, rfl⟩; have HX1 := Lib.hid (zx hx1); rw [hp] at HX1; clear hx1 HX0)
    | (with_reducible refine wpList_store_hd (HX1.out) (⟨f0, f1, f2, f3, f4, f5, f6⟩) ?_ ?_; exact ⟨rfl, _, _, rfl, rfl, rfl⟩
       intro w2 hx2
       obtain ⟨c0, -⟩ := hd7 hx2
       obtain ⟨d0, d1, d2, d3, d4, d5, d6⟩ := hd7 hx2.p3
       have z0 := frozen_blk hx2.p3.at 0
       have HX2 := Lib.hid hx2
       clear hx2 HX1)
    | (go_at_call 38
       have hx3 := HX2.out.p3.setCell 0 (.int .i64 (f0 + 1))
       simp only [List.setIfInBounds_toArray, List.set_cons_zero] at hx3
       have hpt := headPut_ok hx3 ⟨f0 + 1, h1, h2, h3, h4, h5, h6⟩ HI.out
       rw [HPS.out, HOE.out] at hpt
       rw [show Hd.cells ⟨f0 + 1, h1, h2, h3, h4, h5, h6⟩ = #[.int .i64 (f0 + 1), .int .i64 h1, .int .i64 h2, .int .i64 h3, .int .i64 h4, .int .i64 h5, .int .i64 h6] from rfl] at hpt
       with_reducible refine hpt.mono ?_
       clear hpt hx3
       rintro e4 w4 ⟨rfl, hx4⟩
       clear d0 d1 d2 d3 d4 d5 d6
       obtain ⟨d0, d1, d2, d3, d4, d5, d6⟩ := hd7 hx4
       have HX4 := Lib.hid hx4.p2
       clear hx4 HX2)
    | (go_at_call 8; with_reducible refine (write_ok HX4.out ok _ S HSZ.out).mono ?_; rintro e5 w5 ⟨rfl, hx5⟩; rw [HWE.out]; rw [HWD.out] at hx5; clear d0 d1 d2 d3 d4 d5 d6; obtain ⟨d0, d1, d2, d3, d4, d5, d6⟩ := hd7 hx5.p1; have HX5 := Lib.hid hx5; clear hx5 HX4)
    | (go_at_call 39; with_reducible refine (barrier_ok HX5.out HOK1.out HB1.out).mono ?_; rintro e6 w6 ⟨rfl, hx6⟩; rw [HBE.out]; rw [HBD.out] at hx6; clear d0 d1 d2 d3 d4 d5 d6; obtain ⟨d0, d1, d2, d3, d4, d5, d6⟩ := hd7 hx6.p1; have HX6 := Lib.hid hx6; clear hx6 HX5)
    | (with_reducible refine wpList_store_hd (HX2.out.p2) (noHd) ?_ ?_; exact ⟨rfl, _, _, rfl, rfl, rfl⟩
       intro w9 hx9
       have hlf := load_hd hx9
       have HX9 := Lib.hid hx9
       clear hx9 HX2))
  refine bodyPost_ret (v := .tuple #[.agg (Hd.cells noHd), .int .i64 fe]) ?_ rfl ⟨rfl, HX9.out.tail.tail.p1.tail⟩
  rw [results_cell_tmp rfl]
  simp only [asAddr, Array.getD_eq_getD_getElem?, List.getElem?_toArray, List.getElem?_cons_succ, List.getElem?_cons_zero, Option.getD_some, Sem.run_pure, Result.andThen_ok, hlf]

set_option maxRecDepth 100000 in
set_option maxHeartbeats 1600000 in
theorem save_full0 {E W : World} {L : List HP} {b : Nat} {D : Dk} {at_ f1 f2 f3 f4 f5 f6 h0 h1 h2 h3 h4 h5 h6 : Int} (x : Sat E W (isDisk b D :: L)) (ok : OkD D) (a0 : -1000 ≤ at_) (a1 : at_ ≤ 1000) (hR : ∀ i, (readV D i).size ≤ 9223372036854775807)
    (hF : findR D at_ = (⟨9223372036854775807, f1, f2, f3, f4, f5, f6⟩, 0))  :
    Calls Tryz.prog 16 #[.pointer (some ⟨b, 0, none⟩), .int .i64 at_, .agg (Hd.cells ⟨h0, h1, h2, h3, h4, h5, h6⟩)] W fun e w' => e = .returned (.tuple #[.agg (noHd).cells, .int .i64 14]) ∧ Sat E w' (isDisk b D :: L) := by
  have hx0 := x.alloc (.cells #[.int .i64 h0, .int .i64 h1, .int .i64 h2, .int .i64 h3, .int .i64 h4, .int .i64 h5, .int .i64 h6] 33)
  obtain ⟨qh, hqh⟩ : ∃ q, W.heap.size = q := ⟨_, rfl⟩
  rw [hqh] at hx0
  have hx1 := zx hx0
  rw [World.size_alloc, hqh] at hx1
  obtain ⟨q, hq⟩ : ∃ q, qh + 1 = q := ⟨_, rfl⟩
  rw [hq] at hx1
  have hfd := find_ok hx1.p2 ok at_ a0 a1 hR
  rw [hF] at hfd
  dsimp only at hfd
  have HFD := Lib.hid hfd
  have HX0 := Lib.hid hx1
  clear x hx0 hx1 hfd hF hR
  rw [show Hd.cells ⟨h0, h1, h2, h3, h4, h5, h6⟩ = #[.int .i64 h0, .int .i64 h1, .int .i64 h2, .int .i64 h3, .int .i64 h4, .int .i64 h5, .int .i64 h6] from rfl]
  go_enter Tryz.func16, Tryz.ntmps16
  go_wp2_with (first
    | (go_at_call 14; with_reducible refine HFD.out.mono ?_; rintro e1 w1 ⟨rfl, hx1⟩; obtain ⟨p, hp⟩ : ∃ p, w1.heap.size = p := ⟨_, rfl⟩; have HX1 := Lib.hid (zx hx1); rw [hp] at HX1; clear hx1 HX0)
    | (with_reducible refine wpList_store_hd (HX1.out) (⟨9223372036854775807, f1, f2, f3, f4, f5, f6⟩) ?_ ?_; exact ⟨rfl, _, _, rfl, rfl, rfl⟩
       intro w2 hx2
       obtain ⟨c0, -⟩ := hd7 hx2
       obtain ⟨d0, d1, d2, d3, d4, d5, d6⟩ := hd7 hx2.p3
       have z0 := frozen_blk hx2.p3.at 0
       have HX2 := Lib.hid hx2
       clear hx2 HX1)
    | (go_at_call 38
       have hx3 := HX2.out.p3.setCell 0 (.int .i64 (9223372036854775807 + 1))
       simp only [List.setIfInBounds_toArray, List.set_cons_zero] at hx3
       have hpt := headPut_ok hx3 ⟨9223372036854775807 + 1, h1, h2, h3, h4, h5, h6⟩ HI.out
       rw [HPS.out, HOE.out] at hpt
       rw [show Hd.cells ⟨9223372036854775807 + 1, h1, h2, h3, h4, h5, h6⟩ = #[.int .i64 (9223372036854775807 + 1), .int .i64 h1, .int .i64 h2, .int .i64 h3, .int .i64 h4, .int .i64 h5, .int .i64 h6] from rfl] at hpt
       with_reducible refine hpt.mono ?_
       clear hpt hx3
       rintro e4 w4 ⟨rfl, hx4⟩
       clear d0 d1 d2 d3 d4 d5 d6
       obtain ⟨d0, d1, d2, d3, d4, d5, d6⟩ := hd7 hx4
       have HX4 := Lib.hid hx4.p2
       clear hx4 HX2)
    | (go_at_call 8; with_reducible refine (write_ok HX4.out ok _ S HSZ.out).mono ?_; rintro e5 w5 ⟨rfl, hx5⟩; rw [HWE.out]; rw [HWD.out] at hx5; clear d0 d1 d2 d3 d4 d5 d6; obtain ⟨d0, d1, d2, d3, d4, d5, d6⟩ := hd7 hx5.p1; have HX5 := Lib.hid hx5; clear hx5 HX4)
    | (go_at_call 39; with_reducible refine (barrier_ok HX5.out HOK1.out HB1.out).mono ?_; rintro e6 w6 ⟨rfl, hx6⟩; rw [HBE.out]; rw [HBD.out] at hx6; clear d0 d1 d2 d3 d4 d5 d6; obtain ⟨d0, d1, d2, d3, d4, d5, d6⟩ := hd7 hx6.p1; have HX6 := Lib.hid hx6; clear hx6 HX5)
    | (with_reducible refine wpList_store_hd (HX2.out.p2) (noHd) ?_ ?_; exact ⟨rfl, _, _, rfl, rfl, rfl⟩
       intro w9 hx9
       have hlf := load_hd hx9
       have HX9 := Lib.hid hx9
       clear hx9 HX2))
  refine bodyPost_ret (v := .tuple #[.agg (Hd.cells noHd), .int .i64 14]) ?_ rfl ⟨rfl, HX9.out.tail.tail.p1.tail⟩
  rw [results_cell_tmp rfl]
  simp only [asAddr, Array.getD_eq_getD_getElem?, List.getElem?_toArray, List.getElem?_cons_succ, List.getElem?_cons_zero, Option.getD_some, Sem.run_pure, Result.andThen_ok, hlf]

set_option maxRecDepth 100000 in
set_option maxHeartbeats 1600000 in
theorem save_form0 {E W : World} {L : List HP} {b : Nat} {D : Dk} {at_ f0 f1 f2 f3 f4 f5 f6 h0 h1 h2 h3 h4 h5 h6 : Int} (x : Sat E W (isDisk b D :: L)) (ok : OkD D) (a0 : -1000 ≤ at_) (a1 : at_ ≤ 1000) (hR : ∀ i, (readV D i).size ≤ 9223372036854775807)
    (hF : findR D at_ = (⟨f0, f1, f2, f3, f4, f5, f6⟩, 0)) (f00 : 0 ≤ f0) (f01 : f0 < 9223372036854775807) (hI : Hd.Int64 ⟨f0 + 1, h1, h2, h3, h4, h5, h6⟩) (hno : okHd ⟨f0 + 1, h1, h2, h3, h4, h5, h6⟩ = false) :
    Calls Tryz.prog 16 #[.pointer (some ⟨b, 0, none⟩), .int .i64 at_, .agg (Hd.cells ⟨h0, h1, h2, h3, h4, h5, h6⟩)] W fun e w' => e = .returned (.tuple #[.agg (noHd).cells, .int .i64 14]) ∧ Sat E w' (isDisk b D :: L) := by
  have hx0 := x.alloc (.cells #[.int .i64 h0, .int .i64 h1, .int .i64 h2, .int .i64 h3, .int .i64 h4, .int .i64 h5, .int .i64 h6] 33)
  obtain ⟨qh, hqh⟩ : ∃ q, W.heap.size = q := ⟨_, rfl⟩
  rw [hqh] at hx0
  have hx1 := zx hx0
  rw [World.size_alloc, hqh] at hx1
  obtain ⟨q, hq⟩ : ∃ q, qh + 1 = q := ⟨_, rfl⟩
  rw [hq] at hx1
  have hfd := find_ok hx1.p2 ok at_ a0 a1 hR
  rw [hF] at hfd
  dsimp only at hfd
  have HFD := Lib.hid hfd
  have HX0 := Lib.hid hx1
  have HI := Lib.hid hI
  clear hI
  have hfm : (f0 == 9223372036854775807) = false := beq_eq_false_iff_ne.2 (by omega)
  have hf1 : f0 + 1 ≤ 9223372036854775807 := by omega
  have hpsn := putS_no hno
  have hoe : okE ⟨f0 + 1, h1, h2, h3, h4, h5, h6⟩ = 14 := by unfold okE; rw [hno]; rfl
  have HPS := Lib.hid hpsn
  have HOE := Lib.hid hoe
  clear hpsn hoe hno
  clear x hx0 hx1 hfd hF hR
  rw [show Hd.cells ⟨h0, h1, h2, h3, h4, h5, h6⟩ = #[.int .i64 h0, .int .i64 h1, .int .i64 h2, .int .i64 h3, .int .i64 h4, .int .i64 h5, .int .i64 h6] from rfl]
  go_enter Tryz.func16, Tryz.ntmps16
  go_wp2_with (first
    | (go_at_call 14; with_reducible refine HFD.out.mono ?_; rintro e1 w1 ⟨rfl, hx1⟩; obtain ⟨p, hp⟩ : ∃ p, w1.heap.size = p := ⟨_, rfl⟩; have HX1 := Lib.hid (zx hx1); rw [hp] at HX1; clear hx1 HX0)
    | (with_reducible refine wpList_store_hd (HX1.out) (⟨f0, f1, f2, f3, f4, f5, f6⟩) ?_ ?_; exact ⟨rfl, _, _, rfl, rfl, rfl⟩
       intro w2 hx2
       obtain ⟨c0, -⟩ := hd7 hx2
       obtain ⟨d0, d1, d2, d3, d4, d5, d6⟩ := hd7 hx2.p3
       have z0 := frozen_blk hx2.p3.at 0
       have HX2 := Lib.hid hx2
       clear hx2 HX1)
    | (go_at_call 38
       have hx3 := HX2.out.p3.setCell 0 (.int .i64 (f0 + 1))
       simp only [List.setIfInBounds_toArray, List.set_cons_zero] at hx3
       have hpt := headPut_ok hx3 ⟨f0 + 1, h1, h2, h3, h4, h5, h6⟩ HI.out
       rw [HPS.out, HOE.out] at hpt
       rw [show Hd.cells ⟨f0 + 1, h1, h2, h3, h4, h5, h6⟩ = #[.int .i64 (f0 + 1), .int .i64 h1, .int .i64 h2, .int .i64 h3, .int .i64 h4, .int .i64 h5, .int .i64 h6] from rfl] at hpt
       with_reducible refine hpt.mono ?_
       clear hpt hx3
       rintro e4 w4 ⟨rfl, hx4⟩
       clear d0 d1 d2 d3 d4 d5 d6
       obtain ⟨d0, d1, d2, d3, d4, d5, d6⟩ := hd7 hx4
       have HX4 := Lib.hid hx4.p2
       clear hx4 HX2)
    | (go_at_call 8; with_reducible refine (write_ok HX4.out ok _ S HSZ.out).mono ?_; rintro e5 w5 ⟨rfl, hx5⟩; rw [HWE.out]; rw [HWD.out] at hx5; clear d0 d1 d2 d3 d4 d5 d6; obtain ⟨d0, d1, d2, d3, d4, d5, d6⟩ := hd7 hx5.p1; have HX5 := Lib.hid hx5; clear hx5 HX4)
    | (go_at_call 39; with_reducible refine (barrier_ok HX5.out HOK1.out HB1.out).mono ?_; rintro e6 w6 ⟨rfl, hx6⟩; rw [HBE.out]; rw [HBD.out] at hx6; clear d0 d1 d2 d3 d4 d5 d6; obtain ⟨d0, d1, d2, d3, d4, d5, d6⟩ := hd7 hx6.p1; have HX6 := Lib.hid hx6; clear hx6 HX5)
    | (with_reducible refine wpList_store_hd (HX4.out.p3) (noHd) ?_ ?_; exact ⟨rfl, _, _, rfl, rfl, rfl⟩
       intro w9 hx9
       have hlf := load_hd hx9
       have HX9 := Lib.hid hx9
       clear hx9 HX4))
  refine bodyPost_ret (v := .tuple #[.agg (Hd.cells noHd), .int .i64 14]) ?_ rfl ⟨rfl, HX9.out.tail.p1.tail.p1.tail⟩
  rw [results_cell_tmp rfl]
  simp only [asAddr, Array.getD_eq_getD_getElem?, List.getElem?_toArray, List.getElem?_cons_succ, List.getElem?_cons_zero, Option.getD_some, Sem.run_pure, Result.andThen_ok, hlf]

set_option maxRecDepth 100000 in
set_option maxHeartbeats 1600000 in
theorem save_write0 {E W : World} {L : List HP} {b : Nat} {D D1 : Dk} {at_ f0 f1 f2 f3 f4 f5 f6 h0 h1 h2 h3 h4 h5 h6 we : Int} (x : Sat E W (isDisk b D :: L)) (ok : OkD D) (a0 : -1000 ≤ at_) (a1 : at_ ≤ 1000) (hR : ∀ i, (readV D i).size ≤ 9223372036854775807)
    (hF : findR D at_ = (⟨f0, f1, f2, f3, f4, f5, f6⟩, 0)) (f00 : 0 ≤ f0) (f01 : f0 < 9223372036854775807) (hI : Hd.Int64 ⟨f0 + 1, h1, h2, h3, h4, h5, h6⟩) (hok : okHd ⟨f0 + 1, h1, h2, h3, h4, h5, h6⟩ = true) (hwe : writeE D (at_ + (f0 + 1) % 2) (headB ⟨f0 + 1, h1, h2, h3, h4, h5, h6⟩) = we) (hwd : writeD D (at_ + (f0 + 1) % 2) (headB ⟨f0 + 1, h1, h2, h3, h4, h5, h6⟩) = D1) (we0 : we ≠ 0) :
    Calls Tryz.prog 16 #[.pointer (some ⟨b, 0, none⟩), .int .i64 at_, .agg (Hd.cells ⟨h0, h1, h2, h3, h4, h5, h6⟩)] W fun e w' => e = .returned (.tuple #[.agg (noHd).cells, .int .i64 we]) ∧ Sat E w' (isDisk b D1 :: L) := by
  have hx0 := x.alloc (.cells #[.int .i64 h0, .int .i64 h1, .int .i64 h2, .int .i64 h3, .int .i64 h4, .int .i64 h5, .int .i64 h6] 33)
  obtain ⟨qh, hqh⟩ : ∃ q, W.heap.size = q := ⟨_, rfl⟩
  rw [hqh] at hx0
  have hx1 := zx hx0
  rw [World.size_alloc, hqh] at hx1
  obtain ⟨q, hq⟩ : ∃ q, qh + 1 = q := ⟨_, rfl⟩
  rw [hq] at hx1
  have hfd := find_ok hx1.p2 ok at_ a0 a1 hR
  rw [hF] at hfd
  dsimp only at hfd
  have HFD := Lib.hid hfd
  have HX0 := Lib.hid hx1
  have HI := Lib.hid hI
  clear hI
  have hfm : (f0 == 9223372036854775807) = false := beq_eq_false_iff_ne.2 (by omega)
  have hf1 : f0 + 1 ≤ 9223372036854775807 := by omega
  have hpsy := putS_yes hok
  have hoe : okE ⟨f0 + 1, h1, h2, h3, h4, h5, h6⟩ = 0 := by unfold okE; rw [hok]; rfl
  have hsz : (headB ⟨f0 + 1, h1, h2, h3, h4, h5, h6⟩).size ≤ 9223372036854775807 := by rw [headB_size]; omega
  obtain ⟨S, hS⟩ : ∃ S, headB ⟨f0 + 1, h1, h2, h3, h4, h5, h6⟩ = S := ⟨_, rfl⟩
  rw [hS] at hpsy hsz hwe hwd
  have HPS := Lib.hid hpsy
  have HOE := Lib.hid hoe
  have HSZ := Lib.hid hsz
  have HWE := Lib.hid hwe
  have HWD := Lib.hid hwd
  clear hpsy hoe hsz hwe hwd hS hok
  have bwe : (we == 0) = false := beq_eq_false_iff_ne.2 we0
  have bwe2 : (we != 0) = true := by simp [we0]
  clear x hx0 hx1 hfd hF hR
  rw [show Hd.cells ⟨h0, h1, h2, h3, h4, h5, h6⟩ = #[.int .i64 h0, .int .i64 h1, .int .i64 h2, .int .i64 h3, .int .i64 h4, .int .i64 h5, .int .i64 h6] from rfl]
  go_enter Tryz.func16, Tryz.ntmps16
  go_wp2_with (first
    | (go_at_call 14; with_reducible refine HFD.out.mono ?_; rintro e1 w1 ⟨rfl, hx1⟩; obtain ⟨p, hp⟩ : ∃ p, w1.heap.size = p := ⟨_, rfl⟩; have HX1 := Lib.hid (zx hx1); rw [hp] at HX1; clear hx1 HX0)
    | (with_reducible refine wpList_store_hd (HX1.out) (⟨f0, f1, f2, f3, f4, f5, f6⟩) ?_ ?_; exact ⟨rfl, _, _, rfl, rfl, rfl⟩
       intro w2 hx2
       obtain ⟨c0, -⟩ := hd7 hx2
       obtain ⟨d0, d1, d2, d3, d4, d5, d6⟩ := hd7 hx2.p3
       have z0 := frozen_blk hx2.p3.at 0
       have HX2 := Lib.hid hx2
       clear hx2 HX1)
    | (go_at_call 38
       have hx3 := HX2.out.p3.setCell 0 (.int .i64 (f0 + 1))
       simp only [List.setIfInBounds_toArray, List.set_cons_zero] at hx3
       have hpt := headPut_ok hx3 ⟨f0 + 1, h1, h2, h3, h4, h5, h6⟩ HI.out
       rw [HPS.out, HOE.out] at hpt
       rw [show Hd.cells ⟨f0 + 1, h1, h2, h3, h4, h5, h6⟩ = #[.int .i64 (f0 + 1), .int .i64 h1, .int .i64 h2, .int .i64 h3, .int .i64 h4, .int .i64 h5, .int .i64 h6] from rfl] at hpt
       with_reducible refine hpt.mono ?_
       clear hpt hx3
       rintro e4 w4 ⟨rfl, hx4⟩
       clear d0 d1 d2 d3 d4 d5 d6
       obtain ⟨d0, d1, d2, d3, d4, d5, d6⟩ := hd7 hx4
       have HX4 := Lib.hid hx4.p2
       clear hx4 HX2)
    | (go_at_call 8; with_reducible refine (write_ok HX4.out ok _ S HSZ.out).mono ?_; rintro e5 w5 ⟨rfl, hx5⟩; rw [HWE.out]; rw [HWD.out] at hx5; clear d0 d1 d2 d3 d4 d5 d6; obtain ⟨d0, d1, d2, d3, d4, d5, d6⟩ := hd7 hx5.p1; have HX5 := Lib.hid hx5; clear hx5 HX4)
    | (go_at_call 39; with_reducible refine (barrier_ok HX5.out HOK1.out HB1.out).mono ?_; rintro e6 w6 ⟨rfl, hx6⟩; rw [HBE.out]; rw [HBD.out] at hx6; clear d0 d1 d2 d3 d4 d5 d6; obtain ⟨d0, d1, d2, d3, d4, d5, d6⟩ := hd7 hx6.p1; have HX6 := Lib.hid hx6; clear hx6 HX5)
    | (with_reducible refine wpList_store_hd (HX5.out.p3) (noHd) ?_ ?_; exact ⟨rfl, _, _, rfl, rfl, rfl⟩
       intro w9 hx9
       have hlf := load_hd hx9
       have HX9 := Lib.hid hx9
       clear hx9 HX5))
  refine bodyPost_ret (v := .tuple #[.agg (Hd.cells noHd), .int .i64 we]) ?_ rfl ⟨rfl, HX9.out.tail.p1.tail.p1.tail⟩
  rw [results_cell_tmp rfl]
  simp only [asAddr, Array.getD_eq_getD_getElem?, List.getElem?_toArray, List.getElem?_cons_succ, List.getElem?_cons_zero, Option.getD_some, Sem.run_pure, Result.andThen_ok, hlf]

set_option maxRecDepth 100000 in
set_option maxHeartbeats 1600000 in
theorem save_bar0 {E W : World} {L : List HP} {b : Nat} {D D1 D2 : Dk} {at_ f0 f1 f2 f3 f4 f5 f6 h0 h1 h2 h3 h4 h5 h6 be : Int} (x : Sat E W (isDisk b D :: L)) (ok : OkD D) (a0 : -1000 ≤ at_) (a1 : at_ ≤ 1000) (hR : ∀ i, (readV D i).size ≤ 9223372036854775807)
    (hF : findR D at_ = (⟨f0, f1, f2, f3, f4, f5, f6⟩, 0)) (f00 : 0 ≤ f0) (f01 : f0 < 9223372036854775807) (hI : Hd.Int64 ⟨f0 + 1, h1, h2, h3, h4, h5, h6⟩) (hok : okHd ⟨f0 + 1, h1, h2, h3, h4, h5, h6⟩ = true) (hwe : writeE D (at_ + (f0 + 1) % 2) (headB ⟨f0 + 1, h1, h2, h3, h4, h5, h6⟩) = 0) (hwd : writeD D (at_ + (f0 + 1) % 2) (headB ⟨f0 + 1, h1, h2, h3, h4, h5, h6⟩) = D1) (ok1 : OkD D1) (hb1 : D1.barriers < 1000000) (hbd : barrierD D1 = D2) (hbe : barrierE D1 = be) (be0 : be ≠ 0) :
    Calls Tryz.prog 16 #[.pointer (some ⟨b, 0, none⟩), .int .i64 at_, .agg (Hd.cells ⟨h0, h1, h2, h3, h4, h5, h6⟩)] W fun e w' => e = .returned (.tuple #[.agg (noHd).cells, .int .i64 be]) ∧ Sat E w' (isDisk b D2 :: L) := by
  have hx0 := x.alloc (.cells #[.int .i64 h0, .int .i64 h1, .int .i64 h2, .int .i64 h3, .int .i64 h4, .int .i64 h5, .int .i64 h6] 33)
  obtain ⟨qh, hqh⟩ : ∃ q, W.heap.size = q := ⟨_, rfl⟩
  rw [hqh] at hx0
  have hx1 := zx hx0
  rw [World.size_alloc, hqh] at hx1
  obtain ⟨q, hq⟩ : ∃ q, qh + 1 = q := ⟨_, rfl⟩
  rw [hq] at hx1
  have hfd := find_ok hx1.p2 ok at_ a0 a1 hR
  rw [hF] at hfd
  dsimp only at hfd
  have HFD := Lib.hid hfd
  have HX0 := Lib.hid hx1
  have HI := Lib.hid hI
  clear hI
  have hfm : (f0 == 9223372036854775807) = false := beq_eq_false_iff_ne.2 (by omega)
  have hf1 : f0 + 1 ≤ 9223372036854775807 := by omega
  have hpsy := putS_yes hok
  have hoe : okE ⟨f0 + 1, h1, h2, h3, h4, h5, h6⟩ = 0 := by unfold okE; rw [hok]; rfl
  have hsz : (headB ⟨f0 + 1, h1, h2, h3, h4, h5, h6⟩).size ≤ 9223372036854775807 := by rw [headB_size]; omega
  obtain ⟨S, hS⟩ : ∃ S, headB ⟨f0 + 1, h1, h2, h3, h4, h5, h6⟩ = S := ⟨_, rfl⟩
  rw [hS] at hpsy hsz hwe hwd
  have HPS := Lib.hid hpsy
  have HOE := Lib.hid hoe
  have HSZ := Lib.hid hsz
  have HWE := Lib.hid hwe
  have HWD := Lib.hid hwd
  clear hpsy hoe hsz hwe hwd hS hok
  have HOK1 := Lib.hid ok1
  have HB1 := Lib.hid hb1
  have HBE := Lib.hid hbe
  have HBD := Lib.hid hbd
  clear ok1 hb1 hbe hbd
  have bbe2 : (be != 0) = true := by simp [be0]
  clear x hx0 hx1 hfd hF hR
  rw [show Hd.cells ⟨h0, h1, h2, h3, h4, h5, h6⟩ = #[.int .i64 h0, .int .i64 h1, .int .i64 h2, .int .i64 h3, .int .i64 h4, .int .i64 h5, .int .i64 h6] from rfl]
  go_enter Tryz.func16, Tryz.ntmps16
  go_wp2_with (first
    | (go_at_call 14; with_reducible refine HFD.out.mono ?_; rintro e1 w1 ⟨rfl, hx1⟩; obtain ⟨p, hp⟩ : ∃ p, w1.heap.size = p := ⟨_, rfl⟩; have HX1 := Lib.hid (zx hx1); rw [hp] at HX1; clear hx1 HX0)
    | (with_reducible refine wpList_store_hd (HX1.out) (⟨f0, f1, f2, f3, f4, f5, f6⟩) ?_ ?_; exact ⟨rfl, _, _, rfl, rfl, rfl⟩
       intro w2 hx2
       obtain ⟨c0, -⟩ := hd7 hx2
       obtain ⟨d0, d1, d2, d3, d4, d5, d6⟩ := hd7 hx2.p3
       have z0 := frozen_blk hx2.p3.at 0
       have HX2 := Lib.hid hx2
       clear hx2 HX1)
    | (go_at_call 38
       have hx3 := HX2.out.p3.setCell 0 (.int .i64 (f0 + 1))
       simp only [List.setIfInBounds_toArray, List.set_cons_zero] at hx3
       have hpt := headPut_ok hx3 ⟨f0 + 1, h1, h2, h3, h4, h5, h6⟩ HI.out
       rw [HPS.out, HOE.out] at hpt
       rw [show Hd.cells ⟨f0 + 1, h1, h2, h3, h4, h5, h6⟩ = #[.int .i64 (f0 + 1), .int .i64 h1, .int .i64 h2, .int .i64 h3, .int .i64 h4, .int .i64 h5, .int .i64 h6] from rfl] at hpt
       with_reducible refine hpt.mono ?_
       clear hpt hx3
       rintro e4 w4 ⟨rfl, hx4⟩
       clear d0 d1 d2 d3 d4 d5 d6
       obtain ⟨d0, d1, d2, d3, d4, d5, d6⟩ := hd7 hx4
       have HX4 := Lib.hid hx4.p2
       clear hx4 HX2)
    | (go_at_call 8; with_reducible refine (write_ok HX4.out ok _ S HSZ.out).mono ?_; rintro e5 w5 ⟨rfl, hx5⟩; rw [HWE.out]; rw [HWD.out] at hx5; clear d0 d1 d2 d3 d4 d5 d6; obtain ⟨d0, d1, d2, d3, d4, d5, d6⟩ := hd7 hx5.p1; have HX5 := Lib.hid hx5; clear hx5 HX4)
    | (go_at_call 39; with_reducible refine (barrier_ok HX5.out HOK1.out HB1.out).mono ?_; rintro e6 w6 ⟨rfl, hx6⟩; rw [HBE.out]; rw [HBD.out] at hx6; clear d0 d1 d2 d3 d4 d5 d6; obtain ⟨d0, d1, d2, d3, d4, d5, d6⟩ := hd7 hx6.p1; have HX6 := Lib.hid hx6; clear hx6 HX5)
    | (with_reducible refine wpList_store_hd (HX6.out.p3) (noHd) ?_ ?_; exact ⟨rfl, _, _, rfl, rfl, rfl⟩
       intro w9 hx9
       have hlf := load_hd hx9
       have HX9 := Lib.hid hx9
       clear hx9 HX6))
  refine bodyPost_ret (v := .tuple #[.agg (Hd.cells noHd), .int .i64 be]) ?_ rfl ⟨rfl, HX9.out.tail.p1.tail.p1.tail⟩
  rw [results_cell_tmp rfl]
  simp only [asAddr, Array.getD_eq_getD_getElem?, List.getElem?_toArray, List.getElem?_cons_succ, List.getElem?_cons_zero, Option.getD_some, Sem.run_pure, Result.andThen_ok, hlf]

set_option maxRecDepth 100000 in
set_option maxHeartbeats 1600000 in
theorem save_yes0 {E W : World} {L : List HP} {b : Nat} {D D1 D2 : Dk} {at_ f0 f1 f2 f3 f4 f5 f6 h0 h1 h2 h3 h4 h5 h6 : Int} (x : Sat E W (isDisk b D :: L)) (ok : OkD D) (a0 : -1000 ≤ at_) (a1 : at_ ≤ 1000) (hR : ∀ i, (readV D i).size ≤ 9223372036854775807)
    (hF : findR D at_ = (⟨f0, f1, f2, f3, f4, f5, f6⟩, 0)) (f00 : 0 ≤ f0) (f01 : f0 < 9223372036854775807) (hI : Hd.Int64 ⟨f0 + 1, h1, h2, h3, h4, h5, h6⟩) (hok : okHd ⟨f0 + 1, h1, h2, h3, h4, h5, h6⟩ = true) (hwe : writeE D (at_ + (f0 + 1) % 2) (headB ⟨f0 + 1, h1, h2, h3, h4, h5, h6⟩) = 0) (hwd : writeD D (at_ + (f0 + 1) % 2) (headB ⟨f0 + 1, h1, h2, h3, h4, h5, h6⟩) = D1) (ok1 : OkD D1) (hb1 : D1.barriers < 1000000) (hbd : barrierD D1 = D2) (hbe : barrierE D1 = 0) :
    Calls Tryz.prog 16 #[.pointer (some ⟨b, 0, none⟩), .int .i64 at_, .agg (Hd.cells ⟨h0, h1, h2, h3, h4, h5, h6⟩)] W fun e w' => e = .returned (.tuple #[.agg ((⟨f0 + 1, h1, h2, h3, h4, h5, h6⟩ : Hd)).cells, .int .i64 0]) ∧ Sat E w' (isDisk b D2 :: L) := by
  have hx0 := x.alloc (.cells #[.int .i64 h0, .int .i64 h1, .int .i64 h2, .int .i64 h3, .int .i64 h4, .int .i64 h5, .int .i64 h6] 33)
  obtain ⟨qh, hqh⟩ : ∃ q, W.heap.size = q := ⟨_, rfl⟩
  rw [hqh] at hx0
  have hx1 := zx hx0
  rw [World.size_alloc, hqh] at hx1
  obtain ⟨q, hq⟩ : ∃ q, qh + 1 = q := ⟨_, rfl⟩
  rw [hq] at hx1
  have hfd := find_ok hx1.p2 ok at_ a0 a1 hR
  rw [hF] at hfd
  dsimp only at hfd
  have HFD := Lib.hid hfd
  have HX0 := Lib.hid hx1
  have HI := Lib.hid hI
  clear hI
  have hfm : (f0 == 9223372036854775807) = false := beq_eq_false_iff_ne.2 (by omega)
  have hf1 : f0 + 1 ≤ 9223372036854775807 := by omega
  have hpsy := putS_yes hok
  have hoe : okE ⟨f0 + 1, h1, h2, h3, h4, h5, h6⟩ = 0 := by unfold okE; rw [hok]; rfl
  have hsz : (headB ⟨f0 + 1, h1, h2, h3, h4, h5, h6⟩).size ≤ 9223372036854775807 := by rw [headB_size]; omega
  obtain ⟨S, hS⟩ : ∃ S, headB ⟨f0 + 1, h1, h2, h3, h4, h5, h6⟩ = S := ⟨_, rfl⟩
  rw [hS] at hpsy hsz hwe hwd
  have HPS := Lib.hid hpsy
  have HOE := Lib.hid hoe
  have HSZ := Lib.hid hsz
  have HWE := Lib.hid hwe
  have HWD := Lib.hid hwd
  clear hpsy hoe hsz hwe hwd hS hok
  have HOK1 := Lib.hid ok1
  have HB1 := Lib.hid hb1
  have HBE := Lib.hid hbe
  have HBD := Lib.hid hbd
  clear ok1 hb1 hbe hbd
  clear x hx0 hx1 hfd hF hR
  rw [show Hd.cells ⟨h0, h1, h2, h3, h4, h5, h6⟩ = #[.int .i64 h0, .int .i64 h1, .int .i64 h2, .int .i64 h3, .int .i64 h4, .int .i64 h5, .int .i64 h6] from rfl]
  go_enter Tryz.func16, Tryz.ntmps16
  go_wp2_with (first
    | (go_at_call 14; with_reducible refine HFD.out.mono ?_; rintro e1 w1 ⟨rfl, hx1⟩; obtain ⟨p, hp⟩ : ∃ p, w1.heap.size = p := ⟨_, rfl⟩; have HX1 := Lib.hid (zx hx1); rw [hp] at HX1; clear hx1 HX0)
    | (with_reducible refine wpList_store_hd (HX1.out) (⟨f0, f1, f2, f3, f4, f5, f6⟩) ?_ ?_; exact ⟨rfl, _, _, rfl, rfl, rfl⟩
       intro w2 hx2
       obtain ⟨c0, -⟩ := hd7 hx2
       obtain ⟨d0, d1, d2, d3, d4, d5, d6⟩ := hd7 hx2.p3
       have z0 := frozen_blk hx2.p3.at 0
       have HX2 := Lib.hid hx2
       clear hx2 HX1)
    | (go_at_call 38
       have hx3 := HX2.out.p3.setCell 0 (.int .i64 (f0 + 1))
       simp only [List.setIfInBounds_toArray, List.set_cons_zero] at hx3
       have hpt := headPut_ok hx3 ⟨f0 + 1, h1, h2, h3, h4, h5, h6⟩ HI.out
       rw [HPS.out, HOE.out] at hpt
       rw [show Hd.cells ⟨f0 + 1, h1, h2, h3, h4, h5, h6⟩ = #[.int .i64 (f0 + 1), .int .i64 h1, .int .i64 h2, .int .i64 h3, .int .i64 h4, .int .i64 h5, .int .i64 h6] from rfl] at hpt
       with_reducible refine hpt.mono ?_
       clear hpt hx3
       rintro e4 w4 ⟨rfl, hx4⟩
       clear d0 d1 d2 d3 d4 d5 d6
       obtain ⟨d0, d1, d2, d3, d4, d5, d6⟩ := hd7 hx4
       have HX4 := Lib.hid hx4.p2
       clear hx4 HX2)
    | (go_at_call 8; with_reducible refine (write_ok HX4.out ok _ S HSZ.out).mono ?_; rintro e5 w5 ⟨rfl, hx5⟩; rw [HWE.out]; rw [HWD.out] at hx5; clear d0 d1 d2 d3 d4 d5 d6; obtain ⟨d0, d1, d2, d3, d4, d5, d6⟩ := hd7 hx5.p1; have HX5 := Lib.hid hx5; clear hx5 HX4)
    | (go_at_call 39; with_reducible refine (barrier_ok HX5.out HOK1.out HB1.out).mono ?_; rintro e6 w6 ⟨rfl, hx6⟩; rw [HBE.out]; rw [HBD.out] at hx6; clear d0 d1 d2 d3 d4 d5 d6; obtain ⟨d0, d1, d2, d3, d4, d5, d6⟩ := hd7 hx6.p1; have HX6 := Lib.hid hx6; clear hx6 HX5)
    | (with_reducible refine wpList_store_hd (HX6.out.p3) (⟨f0 + 1, h1, h2, h3, h4, h5, h6⟩) ?_ ?_; exact ⟨rfl, _, _, rfl, rfl, rfl⟩
       intro w9 hx9
       have hlf := load_hd hx9
       have HX9 := Lib.hid hx9
       clear hx9 HX6))
  refine bodyPost_ret (v := .tuple #[.agg (Hd.cells ⟨f0 + 1, h1, h2, h3, h4, h5, h6⟩), .int .i64 0]) ?_ rfl ⟨rfl, HX9.out.tail.p1.tail.p1.tail⟩
  rw [results_cell_tmp rfl]
  simp only [asAddr, Array.getD_eq_getD_getElem?, List.getElem?_toArray, List.getElem?_cons_succ, List.getElem?_cons_zero, Option.getD_some, Sem.run_pure, Result.andThen_ok, hlf]

set_option maxRecDepth 100000 in
set_option maxHeartbeats 1600000 in
theorem save_full32 {E W : World} {L : List HP} {b : Nat} {D : Dk} {at_ f1 f2 f3 f4 f5 f6 h0 h1 h2 h3 h4 h5 h6 : Int} (x : Sat E W (isDisk b D :: L)) (ok : OkD D) (a0 : -1000 ≤ at_) (a1 : at_ ≤ 1000) (hR : ∀ i, (readV D i).size ≤ 9223372036854775807)
    (hF : findR D at_ = (⟨9223372036854775807, f1, f2, f3, f4, f5, f6⟩, 32))  :
    Calls Tryz.prog 16 #[.pointer (some ⟨b, 0, none⟩), .int .i64 at_, .agg (Hd.cells ⟨h0, h1, h2, h3, h4, h5, h6⟩)] W fun e w' => e = .returned (.tuple #[.agg (noHd).cells, .int .i64 14]) ∧ Sat E w' (isDisk b D :: L) := by
  have hx0 := x.alloc (.cells #[.int .i64 h0, .int .i64 h1, .int .i64 h2, .int .i64 h3, .int .i64 h4, .int .i64 h5, .int .i64 h6] 33)
  obtain ⟨qh, hqh⟩ : ∃ q, W.heap.size = q := ⟨_, rfl⟩
  rw [hqh] at hx0
  have hx1 := zx hx0
  rw [World.size_alloc, hqh] at hx1
  obtain ⟨q, hq⟩ : ∃ q, qh + 1 = q := ⟨_, rfl⟩
  rw [hq] at hx1
  have hfd := find_ok hx1.p2 ok at_ a0 a1 hR
  rw [hF] at hfd
  dsimp only at hfd
  have HFD := Lib.hid hfd
  have HX0 := Lib.hid hx1
  clear x hx0 hx1 hfd hF hR
  rw [show Hd.cells ⟨h0, h1, h2, h3, h4, h5, h6⟩ = #[.int .i64 h0, .int .i64 h1, .int .i64 h2, .int .i64 h3, .int .i64 h4, .int .i64 h5, .int .i64 h6] from rfl]
  go_enter Tryz.func16, Tryz.ntmps16
  go_wp2_with (first
    | (go_at_call 14; with_reducible refine HFD.out.mono ?_; rintro e1 w1 ⟨rfl, hx1⟩; obtain ⟨p, hp⟩ : ∃ p, w1.heap.size = p := ⟨_, rfl⟩; have HX1 := Lib.hid (zx hx1); rw [hp] at HX1; clear hx1 HX0)
    | (with_reducible refine wpList_store_hd (HX1.out) (⟨9223372036854775807, f1, f2, f3, f4, f5, f6⟩) ?_ ?_; exact ⟨rfl, _, _, rfl, rfl, rfl⟩
       intro w2 hx2
       obtain ⟨c0, -⟩ := hd7 hx2
       obtain ⟨d0, d1, d2, d3, d4, d5, d6⟩ := hd7 hx2.p3
       have z0 := frozen_blk hx2.p3.at 0
       have HX2 := Lib.hid hx2
       clear hx2 HX1)
    | (go_at_call 38
       have hx3 := HX2.out.p3.setCell 0 (.int .i64 (9223372036854775807 + 1))
       simp only [List.setIfInBounds_toArray, List.set_cons_zero] at hx3
       have hpt := headPut_ok hx3 ⟨9223372036854775807 + 1, h1, h2, h3, h4, h5, h6⟩ HI.out
       rw [HPS.out, HOE.out] at hpt
       rw [show Hd.cells ⟨9223372036854775807 + 1, h1, h2, h3, h4, h5, h6⟩ = #[.int .i64 (9223372036854775807 + 1), .int .i64 h1, .int .i64 h2, .int .i64 h3, .int .i64 h4, .int .i64 h5, .int .i64 h6] from rfl] at hpt
       with_reducible refine hpt.mono ?_
       clear hpt hx3
       rintro e4 w4 ⟨rfl, hx4⟩
       clear d0 d1 d2 d3 d4 d5 d6
       obtain ⟨d0, d1, d2, d3, d4, d5, d6⟩ := hd7 hx4
       have HX4 := Lib.hid hx4.p2
       clear hx4 HX2)
    | (go_at_call 8; with_reducible refine (write_ok HX4.out ok _ S HSZ.out).mono ?_; rintro e5 w5 ⟨rfl, hx5⟩; rw [HWE.out]; rw [HWD.out] at hx5; clear d0 d1 d2 d3 d4 d5 d6; obtain ⟨d0, d1, d2, d3, d4, d5, d6⟩ := hd7 hx5.p1; have HX5 := Lib.hid hx5; clear hx5 HX4)
    | (go_at_call 39; with_reducible refine (barrier_ok HX5.out HOK1.out HB1.out).mono ?_; rintro e6 w6 ⟨rfl, hx6⟩; rw [HBE.out]; rw [HBD.out] at hx6; clear d0 d1 d2 d3 d4 d5 d6; obtain ⟨d0, d1, d2, d3, d4, d5, d6⟩ := hd7 hx6.p1; have HX6 := Lib.hid hx6; clear hx6 HX5)
    | (with_reducible refine wpList_store_hd (HX2.out.p2) (noHd) ?_ ?_; exact ⟨rfl, _, _, rfl, rfl, rfl⟩
       intro w9 hx9
       have hlf := load_hd hx9
       have HX9 := Lib.hid hx9
       clear hx9 HX2))
  refine bodyPost_ret (v := .tuple #[.agg (Hd.cells noHd), .int .i64 14]) ?_ rfl ⟨rfl, HX9.out.tail.tail.p1.tail⟩
  rw [results_cell_tmp rfl]
  simp only [asAddr, Array.getD_eq_getD_getElem?, List.getElem?_toArray, List.getElem?_cons_succ, List.getElem?_cons_zero, Option.getD_some, Sem.run_pure, Result.andThen_ok, hlf]

set_option maxRecDepth 100000 in
set_option maxHeartbeats 1600000 in
theorem save_form32 {E W : World} {L : List HP} {b : Nat} {D : Dk} {at_ f0 f1 f2 f3 f4 f5 f6 h0 h1 h2 h3 h4 h5 h6 : Int} (x : Sat E W (isDisk b D :: L)) (ok : OkD D) (a0 : -1000 ≤ at_) (a1 : at_ ≤ 1000) (hR : ∀ i, (readV D i).size ≤ 9223372036854775807)
    (hF : findR D at_ = (⟨f0, f1, f2, f3, f4, f5, f6⟩, 32)) (f00 : 0 ≤ f0) (f01 : f0 < 9223372036854775807) (hI : Hd.Int64 ⟨f0 + 1, h1, h2, h3, h4, h5, h6⟩) (hno : okHd ⟨f0 + 1, h1, h2, h3, h4, h5, h6⟩ = false) :
    Calls Tryz.prog 16 #[.pointer (some ⟨b, 0, none⟩), .int .i64 at_, .agg (Hd.cells ⟨h0, h1, h2, h3, h4, h5, h6⟩)] W fun e w' => e = .returned (.tuple #[.agg (noHd).cells, .int .i64 14]) ∧ Sat E w' (isDisk b D :: L) := by
  have hx0 := x.alloc (.cells #[.int .i64 h0, .int .i64 h1, .int .i64 h2, .int .i64 h3, .int .i64 h4, .int .i64 h5, .int .i64 h6] 33)
  obtain ⟨qh, hqh⟩ : ∃ q, W.heap.size = q := ⟨_, rfl⟩
  rw [hqh] at hx0
  have hx1 := zx hx0
  rw [World.size_alloc, hqh] at hx1
  obtain ⟨q, hq⟩ : ∃ q, qh + 1 = q := ⟨_, rfl⟩
  rw [hq] at hx1
  have hfd := find_ok hx1.p2 ok at_ a0 a1 hR
  rw [hF] at hfd
  dsimp only at hfd
  have HFD := Lib.hid hfd
  have HX0 := Lib.hid hx1
  have HI := Lib.hid hI
  clear hI
  have hfm : (f0 == 9223372036854775807) = false := beq_eq_false_iff_ne.2 (by omega)
  have hf1 : f0 + 1 ≤ 9223372036854775807 := by omega
  have hpsn := putS_no hno
  have hoe : okE ⟨f0 + 1, h1, h2, h3, h4, h5, h6⟩ = 14 := by unfold okE; rw [hno]; rfl
  have HPS := Lib.hid hpsn
  have HOE := Lib.hid hoe
  clear hpsn hoe hno
  clear x hx0 hx1 hfd hF hR
  rw [show Hd.cells ⟨h0, h1, h2, h3, h4, h5, h6⟩ = #[.int .i64 h0, .int .i64 h1, .int .i64 h2, .int .i64 h3, .int .i64 h4, .int .i64 h5, .int .i64 h6] from rfl]
  go_enter Tryz.func16, Tryz.ntmps16
  go_wp2_with (first
    | (go_at_call 14; with_reducible refine HFD.out.mono ?_; rintro e1 w1 ⟨rfl, hx1⟩; obtain ⟨p, hp⟩ : ∃ p, w1.heap.size = p := ⟨_, rfl⟩; have HX1 := Lib.hid (zx hx1); rw [hp] at HX1; clear hx1 HX0)
    | (with_reducible refine wpList_store_hd (HX1.out) (⟨f0, f1, f2, f3, f4, f5, f6⟩) ?_ ?_; exact ⟨rfl, _, _, rfl, rfl, rfl⟩
       intro w2 hx2
       obtain ⟨c0, -⟩ := hd7 hx2
       obtain ⟨d0, d1, d2, d3, d4, d5, d6⟩ := hd7 hx2.p3
       have z0 := frozen_blk hx2.p3.at 0
       have HX2 := Lib.hid hx2
       clear hx2 HX1)
    | (go_at_call 38
       have hx3 := HX2.out.p3.setCell 0 (.int .i64 (f0 + 1))
       simp only [List.setIfInBounds_toArray, List.set_cons_zero] at hx3
       have hpt := headPut_ok hx3 ⟨f0 + 1, h1, h2, h3, h4, h5, h6⟩ HI.out
       rw [HPS.out, HOE.out] at hpt
       rw [show Hd.cells ⟨f0 + 1, h1, h2, h3, h4, h5, h6⟩ = #[.int .i64 (f0 + 1), .int .i64 h1, .int .i64 h2, .int .i64 h3, .int .i64 h4, .int .i64 h5, .int .i64 h6] from rfl] at hpt
       with_reducible refine hpt.mono ?_
       clear hpt hx3
       rintro e4 w4 ⟨rfl, hx4⟩
       clear d0 d1 d2 d3 d4 d5 d6
       obtain ⟨d0, d1, d2, d3, d4, d5, d6⟩ := hd7 hx4
       have HX4 := Lib.hid hx4.p2
       clear hx4 HX2)
    | (go_at_call 8; with_reducible refine (write_ok HX4.out ok _ S HSZ.out).mono ?_; rintro e5 w5 ⟨rfl, hx5⟩; rw [HWE.out]; rw [HWD.out] at hx5; clear d0 d1 d2 d3 d4 d5 d6; obtain ⟨d0, d1, d2, d3, d4, d5, d6⟩ := hd7 hx5.p1; have HX5 := Lib.hid hx5; clear hx5 HX4)
    | (go_at_call 39; with_reducible refine (barrier_ok HX5.out HOK1.out HB1.out).mono ?_; rintro e6 w6 ⟨rfl, hx6⟩; rw [HBE.out]; rw [HBD.out] at hx6; clear d0 d1 d2 d3 d4 d5 d6; obtain ⟨d0, d1, d2, d3, d4, d5, d6⟩ := hd7 hx6.p1; have HX6 := Lib.hid hx6; clear hx6 HX5)
    | (with_reducible refine wpList_store_hd (HX4.out.p3) (noHd) ?_ ?_; exact ⟨rfl, _, _, rfl, rfl, rfl⟩
       intro w9 hx9
       have hlf := load_hd hx9
       have HX9 := Lib.hid hx9
       clear hx9 HX4))
  refine bodyPost_ret (v := .tuple #[.agg (Hd.cells noHd), .int .i64 14]) ?_ rfl ⟨rfl, HX9.out.tail.p1.tail.p1.tail⟩
  rw [results_cell_tmp rfl]
  simp only [asAddr, Array.getD_eq_getD_getElem?, List.getElem?_toArray, List.getElem?_cons_succ, List.getElem?_cons_zero, Option.getD_some, Sem.run_pure, Result.andThen_ok, hlf]

set_option maxRecDepth 100000 in
set_option maxHeartbeats 1600000 in
theorem save_write32 {E W : World} {L : List HP} {b : Nat} {D D1 : Dk} {at_ f0 f1 f2 f3 f4 f5 f6 h0 h1 h2 h3 h4 h5 h6 we : Int} (x : Sat E W (isDisk b D :: L)) (ok : OkD D) (a0 : -1000 ≤ at_) (a1 : at_ ≤ 1000) (hR : ∀ i, (readV D i).size ≤ 9223372036854775807)
    (hF : findR D at_ = (⟨f0, f1, f2, f3, f4, f5, f6⟩, 32)) (f00 : 0 ≤ f0) (f01 : f0 < 9223372036854775807) (hI : Hd.Int64 ⟨f0 + 1, h1, h2, h3, h4, h5, h6⟩) (hok : okHd ⟨f0 + 1, h1, h2, h3, h4, h5, h6⟩ = true) (hwe : writeE D (at_ + (f0 + 1) % 2) (headB ⟨f0 + 1, h1, h2, h3, h4, h5, h6⟩) = we) (hwd : writeD D (at_ + (f0 + 1) % 2) (headB ⟨f0 + 1, h1, h2, h3, h4, h5, h6⟩) = D1) (we0 : we ≠ 0) :
    Calls Tryz.prog 16 #[.pointer (some ⟨b, 0, none⟩), .int .i64 at_, .agg (Hd.cells ⟨h0, h1, h2, h3, h4, h5, h6⟩)] W fun e w' => e = .returned (.tuple #[.agg (noHd).cells, .int .i64 we]) ∧ Sat E w' (isDisk b D1 :: L) := by
  have hx0 := x.alloc (.cells #[.int .i64 h0, .int .i64 h1, .int .i64 h2, .int .i64 h3, .int .i64 h4, .int .i64 h5, .int .i64 h6] 33)
  obtain ⟨qh, hqh⟩ : ∃ q, W.heap.size = q := ⟨_, rfl⟩
  rw [hqh] at hx0
  have hx1 := zx hx0
  rw [World.size_alloc, hqh] at hx1
  obtain ⟨q, hq⟩ : ∃ q, qh + 1 = q := ⟨_, rfl⟩
  rw [hq] at hx1
  have hfd := find_ok hx1.p2 ok at_ a0 a1 hR
  rw [hF] at hfd
  dsimp only at hfd
  have HFD := Lib.hid hfd
  have HX0 := Lib.hid hx1
  have HI := Lib.hid hI
  clear hI
  have hfm : (f0 == 9223372036854775807) = false := beq_eq_false_iff_ne.2 (by omega)
  have hf1 : f0 + 1 ≤ 9223372036854775807 := by omega
  have hpsy := putS_yes hok
  have hoe : okE ⟨f0 + 1, h1, h2, h3, h4, h5, h6⟩ = 0 := by unfold okE; rw [hok]; rfl
  have hsz : (headB ⟨f0 + 1, h1, h2, h3, h4, h5, h6⟩).size ≤ 9223372036854775807 := by rw [headB_size]; omega
  obtain ⟨S, hS⟩ : ∃ S, headB ⟨f0 + 1, h1, h2, h3, h4, h5, h6⟩ = S := ⟨_, rfl⟩
  rw [hS] at hpsy hsz hwe hwd
  have HPS := Lib.hid hpsy
  have HOE := Lib.hid hoe
  have HSZ := Lib.hid hsz
  have HWE := Lib.hid hwe
  have HWD := Lib.hid hwd
  clear hpsy hoe hsz hwe hwd hS hok
  have bwe : (we == 0) = false := beq_eq_false_iff_ne.2 we0
  have bwe2 : (we != 0) = true := by simp [we0]
  clear x hx0 hx1 hfd hF hR
  rw [show Hd.cells ⟨h0, h1, h2, h3, h4, h5, h6⟩ = #[.int .i64 h0, .int .i64 h1, .int .i64 h2, .int .i64 h3, .int .i64 h4, .int .i64 h5, .int .i64 h6] from rfl]
  go_enter Tryz.func16, Tryz.ntmps16
  go_wp2_with (first
    | (go_at_call 14; with_reducible refine HFD.out.mono ?_; rintro e1 w1 ⟨rfl, hx1⟩; obtain ⟨p, hp⟩ : ∃ p, w1.heap.size = p := ⟨_, rfl⟩; have HX1 := Lib.hid (zx hx1); rw [hp] at HX1; clear hx1 HX0)
    | (with_reducible refine wpList_store_hd (HX1.out) (⟨f0, f1, f2, f3, f4, f5, f6⟩) ?_ ?_; exact ⟨rfl, _, _, rfl, rfl, rfl⟩
       intro w2 hx2
       obtain ⟨c0, -⟩ := hd7 hx2
       obtain ⟨d0, d1, d2, d3, d4, d5, d6⟩ := hd7 hx2.p3
       have z0 := frozen_blk hx2.p3.at 0
       have HX2 := Lib.hid hx2
       clear hx2 HX1)
    | (go_at_call 38
       have hx3 := HX2.out.p3.setCell 0 (.int .i64 (f0 + 1))
       simp only [List.setIfInBounds_toArray, List.set_cons_zero] at hx3
       have hpt := headPut_ok hx3 ⟨f0 + 1, h1, h2, h3, h4, h5, h6⟩ HI.out
       rw [HPS.out, HOE.out] at hpt
       rw [show Hd.cells ⟨f0 + 1, h1, h2, h3, h4, h5, h6⟩ = #[.int .i64 (f0 + 1), .int .i64 h1, .int .i64 h2, .int .i64 h3, .int .i64 h4, .int .i64 h5, .int .i64 h6] from rfl] at hpt
       with_reducible refine hpt.mono ?_
       clear hpt hx3
       rintro e4 w4 ⟨rfl, hx4⟩
       clear d0 d1 d2 d3 d4 d5 d6
       obtain ⟨d0, d1, d2, d3, d4, d5, d6⟩ := hd7 hx4
       have HX4 := Lib.hid hx4.p2
       clear hx4 HX2)
    | (go_at_call 8; with_reducible refine (write_ok HX4.out ok _ S HSZ.out).mono ?_; rintro e5 w5 ⟨rfl, hx5⟩; rw [HWE.out]; rw [HWD.out] at hx5; clear d0 d1 d2 d3 d4 d5 d6; obtain ⟨d0, d1, d2, d3, d4, d5, d6⟩ := hd7 hx5.p1; have HX5 := Lib.hid hx5; clear hx5 HX4)
    | (go_at_call 39; with_reducible refine (barrier_ok HX5.out HOK1.out HB1.out).mono ?_; rintro e6 w6 ⟨rfl, hx6⟩; rw [HBE.out]; rw [HBD.out] at hx6; clear d0 d1 d2 d3 d4 d5 d6; obtain ⟨d0, d1, d2, d3, d4, d5, d6⟩ := hd7 hx6.p1; have HX6 := Lib.hid hx6; clear hx6 HX5)
    | (with_reducible refine wpList_store_hd (HX5.out.p3) (noHd) ?_ ?_; exact ⟨rfl, _, _, rfl, rfl, rfl⟩
       intro w9 hx9
       have hlf := load_hd hx9
       have HX9 := Lib.hid hx9
       clear hx9 HX5))
  refine bodyPost_ret (v := .tuple #[.agg (Hd.cells noHd), .int .i64 we]) ?_ rfl ⟨rfl, HX9.out.tail.p1.tail.p1.tail⟩
  rw [results_cell_tmp rfl]
  simp only [asAddr, Array.getD_eq_getD_getElem?, List.getElem?_toArray, List.getElem?_cons_succ, List.getElem?_cons_zero, Option.getD_some, Sem.run_pure, Result.andThen_ok, hlf]

set_option maxRecDepth 100000 in
set_option maxHeartbeats 1600000 in
theorem save_bar32 {E W : World} {L : List HP} {b : Nat} {D D1 D2 : Dk} {at_ f0 f1 f2 f3 f4 f5 f6 h0 h1 h2 h3 h4 h5 h6 be : Int} (x : Sat E W (isDisk b D :: L)) (ok : OkD D) (a0 : -1000 ≤ at_) (a1 : at_ ≤ 1000) (hR : ∀ i, (readV D i).size ≤ 9223372036854775807)
    (hF : findR D at_ = (⟨f0, f1, f2, f3, f4, f5, f6⟩, 32)) (f00 : 0 ≤ f0) (f01 : f0 < 9223372036854775807) (hI : Hd.Int64 ⟨f0 + 1, h1, h2, h3, h4, h5, h6⟩) (hok : okHd ⟨f0 + 1, h1, h2, h3, h4, h5, h6⟩ = true) (hwe : writeE D (at_ + (f0 + 1) % 2) (headB ⟨f0 + 1, h1, h2, h3, h4, h5, h6⟩) = 0) (hwd : writeD D (at_ + (f0 + 1) % 2) (headB ⟨f0 + 1, h1, h2, h3, h4, h5, h6⟩) = D1) (ok1 : OkD D1) (hb1 : D1.barriers < 1000000) (hbd : barrierD D1 = D2) (hbe : barrierE D1 = be) (be0 : be ≠ 0) :
    Calls Tryz.prog 16 #[.pointer (some ⟨b, 0, none⟩), .int .i64 at_, .agg (Hd.cells ⟨h0, h1, h2, h3, h4, h5, h6⟩)] W fun e w' => e = .returned (.tuple #[.agg (noHd).cells, .int .i64 be]) ∧ Sat E w' (isDisk b D2 :: L) := by
  have hx0 := x.alloc (.cells #[.int .i64 h0, .int .i64 h1, .int .i64 h2, .int .i64 h3, .int .i64 h4, .int .i64 h5, .int .i64 h6] 33)
  obtain ⟨qh, hqh⟩ : ∃ q, W.heap.size = q := ⟨_, rfl⟩
  rw [hqh] at hx0
  have hx1 := zx hx0
  rw [World.size_alloc, hqh] at hx1
  obtain ⟨q, hq⟩ : ∃ q, qh + 1 = q := ⟨_, rfl⟩
  rw [hq] at hx1
  have hfd := find_ok hx1.p2 ok at_ a0 a1 hR
  rw [hF] at hfd
  dsimp only at hfd
  have HFD := Lib.hid hfd
  have HX0 := Lib.hid hx1
  have HI := Lib.hid hI
  clear hI
  have hfm : (f0 == 9223372036854775807) = false := beq_eq_false_iff_ne.2 (by omega)
  have hf1 : f0 + 1 ≤ 9223372036854775807 := by omega
  have hpsy := putS_yes hok
  have hoe : okE ⟨f0 + 1, h1, h2, h3, h4, h5, h6⟩ = 0 := by unfold okE; rw [hok]; rfl
  have hsz : (headB ⟨f0 + 1, h1, h2, h3, h4, h5, h6⟩).size ≤ 9223372036854775807 := by rw [headB_size]; omega
  obtain ⟨S, hS⟩ : ∃ S, headB ⟨f0 + 1, h1, h2, h3, h4, h5, h6⟩ = S := ⟨_, rfl⟩
  rw [hS] at hpsy hsz hwe hwd
  have HPS := Lib.hid hpsy
  have HOE := Lib.hid hoe
  have HSZ := Lib.hid hsz
  have HWE := Lib.hid hwe
  have HWD := Lib.hid hwd
  clear hpsy hoe hsz hwe hwd hS hok
  have HOK1 := Lib.hid ok1
  have HB1 := Lib.hid hb1
  have HBE := Lib.hid hbe
  have HBD := Lib.hid hbd
  clear ok1 hb1 hbe hbd
  have bbe2 : (be != 0) = true := by simp [be0]
  clear x hx0 hx1 hfd hF hR
  rw [show Hd.cells ⟨h0, h1, h2, h3, h4, h5, h6⟩ = #[.int .i64 h0, .int .i64 h1, .int .i64 h2, .int .i64 h3, .int .i64 h4, .int .i64 h5, .int .i64 h6] from rfl]
  go_enter Tryz.func16, Tryz.ntmps16
  go_wp2_with (first
    | (go_at_call 14; with_reducible refine HFD.out.mono ?_; rintro e1 w1 ⟨rfl, hx1⟩; obtain ⟨p, hp⟩ : ∃ p, w1.heap.size = p := ⟨_, rfl⟩; have HX1 := Lib.hid (zx hx1); rw [hp] at HX1; clear hx1 HX0)
    | (with_reducible refine wpList_store_hd (HX1.out) (⟨f0, f1, f2, f3, f4, f5, f6⟩) ?_ ?_; exact ⟨rfl, _, _, rfl, rfl, rfl⟩
       intro w2 hx2
       obtain ⟨c0, -⟩ := hd7 hx2
       obtain ⟨d0, d1, d2, d3, d4, d5, d6⟩ := hd7 hx2.p3
       have z0 := frozen_blk hx2.p3.at 0
       have HX2 := Lib.hid hx2
       clear hx2 HX1)
    | (go_at_call 38
       have hx3 := HX2.out.p3.setCell 0 (.int .i64 (f0 + 1))
       simp only [List.setIfInBounds_toArray, List.set_cons_zero] at hx3
       have hpt := headPut_ok hx3 ⟨f0 + 1, h1, h2, h3, h4, h5, h6⟩ HI.out
       rw [HPS.out, HOE.out] at hpt
       rw [show Hd.cells ⟨f0 + 1, h1, h2, h3, h4, h5, h6⟩ = #[.int .i64 (f0 + 1), .int .i64 h1, .int .i64 h2, .int .i64 h3, .int .i64 h4, .int .i64 h5, .int .i64 h6] from rfl] at hpt
       with_reducible refine hpt.mono ?_
       clear hpt hx3
       rintro e4 w4 ⟨rfl, hx4⟩
       clear d0 d1 d2 d3 d4 d5 d6
       obtain ⟨d0, d1, d2, d3, d4, d5, d6⟩ := hd7 hx4
       have HX4 := Lib.hid hx4.p2
       clear hx4 HX2)
    | (go_at_call 8; with_reducible refine (write_ok HX4.out ok _ S HSZ.out).mono ?_; rintro e5 w5 ⟨rfl, hx5⟩; rw [HWE.out]; rw [HWD.out] at hx5; clear d0 d1 d2 d3 d4 d5 d6; obtain ⟨d0, d1, d2, d3, d4, d5, d6⟩ := hd7 hx5.p1; have HX5 := Lib.hid hx5; clear hx5 HX4)
    | (go_at_call 39; with_reducible refine (barrier_ok HX5.out HOK1.out HB1.out).mono ?_; rintro e6 w6 ⟨rfl, hx6⟩; rw [HBE.out]; rw [HBD.out] at hx6; clear d0 d1 d2 d3 d4 d5 d6; obtain ⟨d0, d1, d2, d3, d4, d5, d6⟩ := hd7 hx6.p1; have HX6 := Lib.hid hx6; clear hx6 HX5)
    | (with_reducible refine wpList_store_hd (HX6.out.p3) (noHd) ?_ ?_; exact ⟨rfl, _, _, rfl, rfl, rfl⟩
       intro w9 hx9
       have hlf := load_hd hx9
       have HX9 := Lib.hid hx9
       clear hx9 HX6))
  refine bodyPost_ret (v := .tuple #[.agg (Hd.cells noHd), .int .i64 be]) ?_ rfl ⟨rfl, HX9.out.tail.p1.tail.p1.tail⟩
  rw [results_cell_tmp rfl]
  simp only [asAddr, Array.getD_eq_getD_getElem?, List.getElem?_toArray, List.getElem?_cons_succ, List.getElem?_cons_zero, Option.getD_some, Sem.run_pure, Result.andThen_ok, hlf]

set_option maxRecDepth 100000 in
set_option maxHeartbeats 1600000 in
theorem save_yes32 {E W : World} {L : List HP} {b : Nat} {D D1 D2 : Dk} {at_ f0 f1 f2 f3 f4 f5 f6 h0 h1 h2 h3 h4 h5 h6 : Int} (x : Sat E W (isDisk b D :: L)) (ok : OkD D) (a0 : -1000 ≤ at_) (a1 : at_ ≤ 1000) (hR : ∀ i, (readV D i).size ≤ 9223372036854775807)
    (hF : findR D at_ = (⟨f0, f1, f2, f3, f4, f5, f6⟩, 32)) (f00 : 0 ≤ f0) (f01 : f0 < 9223372036854775807) (hI : Hd.Int64 ⟨f0 + 1, h1, h2, h3, h4, h5, h6⟩) (hok : okHd ⟨f0 + 1, h1, h2, h3, h4, h5, h6⟩ = true) (hwe : writeE D (at_ + (f0 + 1) % 2) (headB ⟨f0 + 1, h1, h2, h3, h4, h5, h6⟩) = 0) (hwd : writeD D (at_ + (f0 + 1) % 2) (headB ⟨f0 + 1, h1, h2, h3, h4, h5, h6⟩) = D1) (ok1 : OkD D1) (hb1 : D1.barriers < 1000000) (hbd : barrierD D1 = D2) (hbe : barrierE D1 = 0) :
    Calls Tryz.prog 16 #[.pointer (some ⟨b, 0, none⟩), .int .i64 at_, .agg (Hd.cells ⟨h0, h1, h2, h3, h4, h5, h6⟩)] W fun e w' => e = .returned (.tuple #[.agg ((⟨f0 + 1, h1, h2, h3, h4, h5, h6⟩ : Hd)).cells, .int .i64 0]) ∧ Sat E w' (isDisk b D2 :: L) := by
  have hx0 := x.alloc (.cells #[.int .i64 h0, .int .i64 h1, .int .i64 h2, .int .i64 h3, .int .i64 h4, .int .i64 h5, .int .i64 h6] 33)
  obtain ⟨qh, hqh⟩ : ∃ q, W.heap.size = q := ⟨_, rfl⟩
  rw [hqh] at hx0
  have hx1 := zx hx0
  rw [World.size_alloc, hqh] at hx1
  obtain ⟨q, hq⟩ : ∃ q, qh + 1 = q := ⟨_, rfl⟩
  rw [hq] at hx1
  have hfd := find_ok hx1.p2 ok at_ a0 a1 hR
  rw [hF] at hfd
  dsimp only at hfd
  have HFD := Lib.hid hfd
  have HX0 := Lib.hid hx1
  have HI := Lib.hid hI
  clear hI
  have hfm : (f0 == 9223372036854775807) = false := beq_eq_false_iff_ne.2 (by omega)
  have hf1 : f0 + 1 ≤ 9223372036854775807 := by omega
  have hpsy := putS_yes hok
  have hoe : okE ⟨f0 + 1, h1, h2, h3, h4, h5, h6⟩ = 0 := by unfold okE; rw [hok]; rfl
  have hsz : (headB ⟨f0 + 1, h1, h2, h3, h4, h5, h6⟩).size ≤ 9223372036854775807 := by rw [headB_size]; omega
  obtain ⟨S, hS⟩ : ∃ S, headB ⟨f0 + 1, h1, h2, h3, h4, h5, h6⟩ = S := ⟨_, rfl⟩
  rw [hS] at hpsy hsz hwe hwd
  have HPS := Lib.hid hpsy
  have HOE := Lib.hid hoe
  have HSZ := Lib.hid hsz
  have HWE := Lib.hid hwe
  have HWD := Lib.hid hwd
  clear hpsy hoe hsz hwe hwd hS hok
  have HOK1 := Lib.hid ok1
  have HB1 := Lib.hid hb1
  have HBE := Lib.hid hbe
  have HBD := Lib.hid hbd
  clear ok1 hb1 hbe hbd
  clear x hx0 hx1 hfd hF hR
  rw [show Hd.cells ⟨h0, h1, h2, h3, h4, h5, h6⟩ = #[.int .i64 h0, .int .i64 h1, .int .i64 h2, .int .i64 h3, .int .i64 h4, .int .i64 h5, .int .i64 h6] from rfl]
  go_enter Tryz.func16, Tryz.ntmps16
  go_wp2_with (first
    | (go_at_call 14; with_reducible refine HFD.out.mono ?_; rintro e1 w1 ⟨rfl, hx1⟩; obtain ⟨p, hp⟩ : ∃ p, w1.heap.size = p := ⟨_, rfl⟩; have HX1 := Lib.hid (zx hx1); rw [hp] at HX1; clear hx1 HX0)
    | (with_reducible refine wpList_store_hd (HX1.out) (⟨f0, f1, f2, f3, f4, f5, f6⟩) ?_ ?_; exact ⟨rfl, _, _, rfl, rfl, rfl⟩
       intro w2 hx2
       obtain ⟨c0, -⟩ := hd7 hx2
       obtain ⟨d0, d1, d2, d3, d4, d5, d6⟩ := hd7 hx2.p3
       have z0 := frozen_blk hx2.p3.at 0
       have HX2 := Lib.hid hx2
       clear hx2 HX1)
    | (go_at_call 38
       have hx3 := HX2.out.p3.setCell 0 (.int .i64 (f0 + 1))
       simp only [List.setIfInBounds_toArray, List.set_cons_zero] at hx3
       have hpt := headPut_ok hx3 ⟨f0 + 1, h1, h2, h3, h4, h5, h6⟩ HI.out
       rw [HPS.out, HOE.out] at hpt
       rw [show Hd.cells ⟨f0 + 1, h1, h2, h3, h4, h5, h6⟩ = #[.int .i64 (f0 + 1), .int .i64 h1, .int .i64 h2, .int .i64 h3, .int .i64 h4, .int .i64 h5, .int .i64 h6] from rfl] at hpt
       with_reducible refine hpt.mono ?_
       clear hpt hx3
       rintro e4 w4 ⟨rfl, hx4⟩
       clear d0 d1 d2 d3 d4 d5 d6
       obtain ⟨d0, d1, d2, d3, d4, d5, d6⟩ := hd7 hx4
       have HX4 := Lib.hid hx4.p2
       clear hx4 HX2)
    | (go_at_call 8; with_reducible refine (write_ok HX4.out ok _ S HSZ.out).mono ?_; rintro e5 w5 ⟨rfl, hx5⟩; rw [HWE.out]; rw [HWD.out] at hx5; clear d0 d1 d2 d3 d4 d5 d6; obtain ⟨d0, d1, d2, d3, d4, d5, d6⟩ := hd7 hx5.p1; have HX5 := Lib.hid hx5; clear hx5 HX4)
    | (go_at_call 39; with_reducible refine (barrier_ok HX5.out HOK1.out HB1.out).mono ?_; rintro e6 w6 ⟨rfl, hx6⟩; rw [HBE.out]; rw [HBD.out] at hx6; clear d0 d1 d2 d3 d4 d5 d6; obtain ⟨d0, d1, d2, d3, d4, d5, d6⟩ := hd7 hx6.p1; have HX6 := Lib.hid hx6; clear hx6 HX5)
    | (with_reducible refine wpList_store_hd (HX6.out.p3) (⟨f0 + 1, h1, h2, h3, h4, h5, h6⟩) ?_ ?_; exact ⟨rfl, _, _, rfl, rfl, rfl⟩
       intro w9 hx9
       have hlf := load_hd hx9
       have HX9 := Lib.hid hx9
       clear hx9 HX6))
  refine bodyPost_ret (v := .tuple #[.agg (Hd.cells ⟨f0 + 1, h1, h2, h3, h4, h5, h6⟩), .int .i64 0]) ?_ rfl ⟨rfl, HX9.out.tail.p1.tail.p1.tail⟩
  rw [results_cell_tmp rfl]
  simp only [asAddr, Array.getD_eq_getD_getElem?, List.getElem?_toArray, List.getElem?_cons_succ, List.getElem?_cons_zero, Option.getD_some, Sem.run_pure, Result.andThen_ok, hlf]

theorem getP_int64 {s : ByteArray} {h : Hd} (k : getP s = some h) : h.Int64 := by
  obtain ⟨_, rfl, _, _, g, n, g2, n2⟩ := getP_some k
  have f := fun p : Nat => fld_lt s p 4
  have f1 := f 12
  have f2 := f 16
  have f3 := f 20
  have f4 := f 24
  have f5 := f 36
  have e1 : ∀ n : Nat, n < 256 ^ 4 → inI (n : Int) := fun n hn => ⟨by omega, by omega⟩
  have e2 : ∀ n : Nat, n ≤ 9223372036854775807 → inI (n : Int) := fun n hn => ⟨by omega, by omega⟩
  exact ⟨e2 _ g2, e1 _ f1, e1 _ f2, e1 _ f3, e1 _ f4, e2 _ n2, e1 _ f5⟩
theorem noHd_int64 : noHd.Int64 := by
  have z : inI 0 := ⟨by omega, by omega⟩
  exact ⟨z, z, z, z, z, z, z⟩
def Fine (h : Hd) : Prop := h.Int64 ∧ 0 ≤ h.gen
theorem fine_step {b : Hd} (k : Fine b) (s : ByteArray) : Fine (stepH b (getP s)) := by
  unfold stepH
  split
  · rename_i h hh
    split
    · exact ⟨getP_int64 hh, by have := ok_gen (getP_some hh).2.2.1; omega⟩
    · exact k
  · exact k
theorem noHd_fine : Fine noHd := ⟨noHd_int64, by decide⟩
theorem best_fine (D : Dk) (at_ : Int) : Fine (bestH D at_) := fine_step (fine_step noHd_fine _) _
theorem find_fine (D : Dk) (at_ : Int) : Fine (findR D at_).1 := by
  unfold findR
  split
  · split
    · exact best_fine D at_
    · exact noHd_fine
  · exact noHd_fine
theorem Hd.eta (h : Hd) : (⟨h.gen, h.epoch, h.since, h.area, h.size, h.next, h.pos⟩ : Hd) = h := rfl

theorem save_ok {E W : World} {L : List HP} {b : Nat} {D : Dk} {at_ : Int} (x : Sat E W (isDisk b D :: L)) (ok : OkD D) (a0 : -1000 ≤ at_) (a1 : at_ ≤ 1000) (hR : ∀ i, (readV D i).size ≤ 9223372036854775807) (h : Hd) (hi : h.Int64)
    (hw : D.writes < 1000000) (hl : D.wait.length < 1000000) (hb : D.barriers < 1000000) :
    Calls Tryz.prog 16 #[.pointer (some ⟨b, 0, none⟩), .int .i64 at_, .agg h.cells] W fun e w' => e = .returned (.tuple #[.agg (saveR D at_ h).1.cells, .int .i64 (saveR D at_ h).2.1]) ∧ Sat E w' (isDisk b (saveR D at_ h).2.2 :: L) := by
  obtain ⟨fi, fg⟩ := find_fine D at_
  obtain ⟨F, hF⟩ : ∃ F, findR D at_ = F := ⟨_, rfl⟩
  obtain ⟨⟨f0, f1, f2, f3, f4, f5, f6⟩, fe⟩ := F
  obtain ⟨h0, h1, h2, h3, h4, h5, h6⟩ := h
  unfold saveR
  rw [hF] at fi fg ⊢
  dsimp only at fi fg ⊢
  have fg1 : f0 ≤ 9223372036854775807 := fi.g.2
  by_cases he : fe ≠ 0 ∧ fe ≠ 32
  · rw [if_pos he]
    exact save_find x ok a0 a1 hR hF he.1 he.2
  · rw [if_neg he]
    have hfe : fe = 0 ∨ fe = 32 := by omega
    by_cases hm : f0 = 9223372036854775807
    · rw [if_pos hm]
      subst hm
      rcases hfe with rfl | rfl
      · exact save_full0 x ok a0 a1 hR hF
      · exact save_full32 x ok a0 a1 hR hF
    · rw [if_neg hm]
      have hI : Hd.Int64 ⟨f0 + 1, h1, h2, h3, h4, h5, h6⟩ := ⟨⟨by show _ ≤ f0 + 1; omega, by show f0 + 1 ≤ _; omega⟩, hi.e, hi.s, hi.a, hi.z, hi.n, hi.p⟩
      unfold withG
      dsimp only
      cases hok : okHd ⟨f0 + 1, h1, h2, h3, h4, h5, h6⟩ with
      | false =>
        rw [if_neg (by simp)]
        rcases hfe with rfl | rfl
        · exact save_form0 x ok a0 a1 hR hF fg (by omega) hI hok
        · exact save_form32 x ok a0 a1 hR hF fg (by omega) hI hok
      | true =>
        rw [if_pos rfl]
        unfold putH
        dsimp only
        by_cases hwe : writeE D (at_ + (f0 + 1) % 2) (headB ⟨f0 + 1, h1, h2, h3, h4, h5, h6⟩) = 0
        · rw [if_pos hwe]
          have ok1 := ok.write (at_ + (f0 + 1) % 2) (headB ⟨f0 + 1, h1, h2, h3, h4, h5, h6⟩) hw hl
          have hb1 : (writeD D (at_ + (f0 + 1) % 2) (headB ⟨f0 + 1, h1, h2, h3, h4, h5, h6⟩)).barriers < 1000000 := by
            rw [show (writeD D (at_ + (f0 + 1) % 2) (headB ⟨f0 + 1, h1, h2, h3, h4, h5, h6⟩)).barriers = D.barriers by
              unfold writeD wroteD
              split
              · split <;> exact (burnD_same D).2.2.2
              · rfl]
            exact hb
          by_cases hbe : barrierE (writeD D (at_ + (f0 + 1) % 2) (headB ⟨f0 + 1, h1, h2, h3, h4, h5, h6⟩)) = 0
          · rw [if_pos hbe]
            rcases hfe with rfl | rfl
            · exact save_yes0 x ok a0 a1 hR hF fg (by omega) hI hok hwe rfl ok1 hb1 rfl hbe
            · exact save_yes32 x ok a0 a1 hR hF fg (by omega) hI hok hwe rfl ok1 hb1 rfl hbe
          · rw [if_neg hbe]
            rcases hfe with rfl | rfl
            · exact save_bar0 x ok a0 a1 hR hF fg (by omega) hI hok hwe rfl ok1 hb1 rfl rfl hbe
            · exact save_bar32 x ok a0 a1 hR hF fg (by omega) hI hok hwe rfl ok1 hb1 rfl rfl hbe
        · rw [if_neg hwe]
          rcases hfe with rfl | rfl
          · exact save_write0 x ok a0 a1 hR hF fg (by omega) hI hok rfl rfl hwe
          · exact save_write32 x ok a0 a1 hR hF fg (by omega) hI hok rfl rfl hwe

set_option maxRecDepth 100000 in
set_option maxHeartbeats 1600000 in
theorem find_nil {E W : World} {L : List HP} (x : Sat E W L) (i : Int) : Calls Tryz.prog 14 #[.pointer none, .int .i64 i] W fun e w' => e = .returned (.tuple #[.agg noHd.cells, .int .i64 1]) ∧ Sat E w' L := by
  have hx1 := zx x
  obtain ⟨q, hq⟩ : ∃ q, W.heap.size = q := ⟨_, rfl⟩
  rw [hq] at hx1
  have HX1 := Lib.hid (zx hx1)
  rw [World.size_alloc, hq] at HX1
  clear hx1 x
  go_enter Tryz.func14, Tryz.ntmps14
  go_wp2
  go_loopw [12] (fun i wr => i = .int .i64 0 ∧ Sat E wr (pt q (.cells noHd.cells 33) :: L)) (fun i _ => 2 - (intOf i).toNat)
  case atStart => exact ⟨rfl, HX1.out.tail⟩
  case round =>
    obtain ⟨rfl, hx⟩ := hrel
    have HX := Lib.hid hx
    clear hx
    go_wp2_with (first
      | (go_at_call 34; with_reducible refine (read_nil HX.out _).mono ?_; rintro e3 w3 ⟨rfl, hx3⟩; have HX3 := Lib.hid hx3; clear hx3)
      | (with_reducible refine wpList_store_hd (HX3.out) (noHd) ?_ ?_; exact ⟨rfl, _, _, rfl, rfl, rfl⟩
         intro w4 hx4
         have hlf := load_hd hx4
         have HX4 := Lib.hid hx4
         clear hx4 HX3))
    refine bodyPost_ret (v := .tuple #[.agg noHd.cells, .int .i64 1]) ?_ rfl ⟨rfl, HX4.out.tail⟩
    rw [results_cell_tmp rfl]
    simp only [asAddr, Array.getD_eq_getD_getElem?, List.getElem?_toArray, List.getElem?_cons_succ, List.getElem?_cons_zero, Option.getD_some, Sem.run_pure, Result.andThen_ok, hlf]

set_option maxRecDepth 100000 in
set_option maxHeartbeats 1600000 in
theorem save_nil {E W : World} {L : List HP} (x : Sat E W L) (i : Int) (h : Hd) : Calls Tryz.prog 16 #[.pointer none, .int .i64 i, .agg h.cells] W fun e w' => e = .returned (.tuple #[.agg noHd.cells, .int .i64 1]) ∧ Sat E w' L := by
  obtain ⟨h0, h1, h2, h3, h4, h5, h6⟩ := h
  have hx0 := x.alloc (.cells #[.int .i64 h0, .int .i64 h1, .int .i64 h2, .int .i64 h3, .int .i64 h4, .int .i64 h5, .int .i64 h6] 33)
  obtain ⟨qh, hqh⟩ : ∃ q, W.heap.size = q := ⟨_, rfl⟩
  rw [hqh] at hx0
  have hx1 := zx hx0
  rw [World.size_alloc, hqh] at hx1
  obtain ⟨q, hq⟩ : ∃ q, qh + 1 = q := ⟨_, rfl⟩
  rw [hq] at hx1
  have HX0 := Lib.hid hx1
  clear x hx0 hx1
  rw [show Hd.cells ⟨h0, h1, h2, h3, h4, h5, h6⟩ = #[.int .i64 h0, .int .i64 h1, .int .i64 h2, .int .i64 h3, .int .i64 h4, .int .i64 h5, .int .i64 h6] from rfl]
  go_enter Tryz.func16, Tryz.ntmps16
  go_wp2_with (first
    | (go_at_call 14; with_reducible refine (find_nil HX0.out i).mono ?_; rintro e1 w1 ⟨rfl, hx1⟩; obtain ⟨p, hp⟩ : ∃ p, w1.heap.size = p := ⟨_, rfl⟩; have HX1 := Lib.hid (zx hx1); rw [hp] at HX1; clear hx1 HX0)
    | (with_reducible refine wpList_store_hd (HX1.out) (noHd) ?_ ?_; exact ⟨rfl, _, _, rfl, rfl, rfl⟩
       intro w2 hx2
       have HX2 := Lib.hid hx2
       clear hx2 HX1)
    | (with_reducible refine wpList_store_hd (HX2.out.p1) (noHd) ?_ ?_; exact ⟨rfl, _, _, rfl, rfl, rfl⟩
       intro w9 hx9
       have hlf := load_hd hx9
       have HX9 := Lib.hid hx9
       clear hx9 HX2))
  refine bodyPost_ret (v := .tuple #[.agg noHd.cells, .int .i64 1]) ?_ rfl ⟨rfl, HX9.out.tail.tail.tail⟩
  rw [results_cell_tmp rfl]
  simp only [asAddr, Array.getD_eq_getD_getElem?, List.getElem?_toArray, List.getElem?_cons_succ, List.getElem?_cons_zero, Option.getD_some, Sem.run_pure, Result.andThen_ok, hlf]
end Go.Proofs.YtmkpglabiikdeaaGreat

