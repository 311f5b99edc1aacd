/-
  The document's Save on a disk, walked.
-/
import Derived.Test.YtmkpglabiikdeaaGreatRefFind
namespace Go.Proofs.YtmkpglabiikdeaaGreat
open Go.RowKit PH

theorem madeB_write (D : Dk) (i : Int) (s : ByteArray) : madeB (writeD D i s) = madeB D := by
  have e := (burnD_same D).1
  have : (writeD D i s).kept = D.kept := by
    unfold writeD wroteD
    split
    · split
      · exact e
      · exact e
    · rfl
  unfold madeB
  rw [this]

set_option maxRecDepth 100000 in
set_option maxHeartbeats 1600000 in
theorem rsave_find {E W : World} {L : List HP} {b : Nat} {D : Dk} {at_ f0 f1 f2 f3 f4 f5 f6 h0 h1 h2 h3 h4 h5 h6 fe : Int} (x : Sat E W (isRef b D :: L)) (hm : madeB D = true) (ok : OkD D) (a0 : -1000 ≤ at_) (a1 : at_ ≤ 1000) (hR : ∀ i, (readV D i).size ≤ 9223372036854775807)
    (hF : findR D at_ = (⟨f0, f1, f2, f3, f4, f5, f6⟩, fe)) (e0 : fe ≠ 0) (e32 : fe ≠ 32) :
    Calls Tryz.prog 17 #[.pointer (some ⟨b, 0, none⟩), .int .i64 at_, .agg (Hd.cells ⟨h0, h1, h2, h3, h4, h5, h6⟩)] W fun e w' => e = .returned (.tuple #[.agg (noHd).cells, .int .i64 fe]) ∧ Sat E w' (isRef b D :: L) := by
  have hx0 := x.alloc (.cells #[.int .i64 h0, .int .i64 h1, .int .i64 h2, .int .i64 h3, .int .i64 h4, .int .i64 h5, .int .i64 h6] 33)
  obtain ⟨qh, hqh⟩ : ∃ q, W.heap.size = q := ⟨_, rfl⟩
  rw [hqh] at hx0
  have hx1 := zx hx0
  rw [World.size_alloc, hqh] at hx1
  obtain ⟨q, hq⟩ : ∃ q, qh + 1 = q := ⟨_, rfl⟩
  rw [hq] at hx1
  have hfd := refFind_ok hx1.p2 hm ok a0 a1 hR
  rw [hF] at hfd
  dsimp only at hfd
  have HFD := Lib.hid hfd
  have HX0 := Lib.hid hx1
  have b0 : (fe != 0) = true := by simp [e0]
  have b32 : (fe != 32) = true := by simp [e32]
  clear x hx0 hx1 hfd hF hR
  rw [show Hd.cells ⟨h0, h1, h2, h3, h4, h5, h6⟩ = #[.int .i64 h0, .int .i64 h1, .int .i64 h2, .int .i64 h3, .int .i64 h4, .int .i64 h5, .int .i64 h6] from rfl]
  go_enter Tryz.func17, Tryz.ntmps17
  go_wp2_with (first
    | (go_at_call 15; with_reducible refine HFD.out.mono ?_; rintro e1 w1 ⟨rfl, hx1⟩; obtain ⟨p, hp⟩ : ∃ p, w1.heap.size = p := ⟨_, rfl⟩; have HX1 := Lib.hid (zx hx1); rw [hp] at HX1; clear hx1 HX0)
    | (with_reducible refine wpList_store_hd (HX1.out) (⟨f0, f1, f2, f3, f4, f5, f6⟩) ?_ ?_; exact ⟨rfl, _, _, rfl, rfl, rfl⟩
       intro w2 hx2
       obtain ⟨c0, -⟩ := hd7 hx2
       obtain ⟨d0, d1, d2, d3, d4, d5, d6⟩ := hd7 hx2.p3
       have z0 := frozen_blk hx2.p3.at 0
       have HX2 := Lib.hid hx2
       clear hx2 HX1)
    | (go_at_call 40
       have hx3 := HX2.out.p3.setCell 0 (.int .i64 (f0 + 1))
       simp only [List.setIfInBounds_toArray, List.set_cons_zero] at hx3
       have hpt := refHdCheck_ok hx3 ⟨f0 + 1, h1, h2, h3, h4, h5, h6⟩
       rw [HOK.out] at hpt
       rw [show Hd.cells ⟨f0 + 1, h1, h2, h3, h4, h5, h6⟩ = #[.int .i64 (f0 + 1), .int .i64 h1, .int .i64 h2, .int .i64 h3, .int .i64 h4, .int .i64 h5, .int .i64 h6] from rfl] at hpt
       with_reducible refine hpt.mono ?_
       clear hpt hx3
       rintro e4 w4 ⟨rfl, hx4⟩
       clear d0 d1 d2 d3 d4 d5 d6
       obtain ⟨d0, d1, d2, d3, d4, d5, d6⟩ := hd7 hx4
       have HX4 := Lib.hid hx4.p2
       clear hx4 HX2)
    | (with_reducible refine wpList_store_hd (HX2.out.p2) (noHd) ?_ ?_; exact ⟨rfl, _, _, rfl, rfl, rfl⟩
       intro w9 hx9
       have hlf := load_hd hx9
       have HX9 := Lib.hid hx9
       clear hx9 HX2))
  refine bodyPost_ret (v := .tuple #[.agg (Hd.cells noHd), .int .i64 fe]) ?_ rfl ⟨rfl, HX9.out.tail.tail.p1.tail⟩
  rw [results_cell_tmp rfl]
  simp only [asAddr, Array.getD_eq_getD_getElem?, List.getElem?_toArray, List.getElem?_cons_succ, List.getElem?_cons_zero, Option.getD_some, Sem.run_pure, Result.andThen_ok, hlf]

set_option maxRecDepth 100000 in
set_option maxHeartbeats 1600000 in
theorem rsave_full0 {E W : World} {L : List HP} {b : Nat} {D : Dk} {at_ f1 f2 f3 f4 f5 f6 h0 h1 h2 h3 h4 h5 h6 : Int} (x : Sat E W (isRef b D :: L)) (hm : madeB D = true) (ok : OkD D) (a0 : -1000 ≤ at_) (a1 : at_ ≤ 1000) (hR : ∀ i, (readV D i).size ≤ 9223372036854775807)
    (hF : findR D at_ = (⟨9223372036854775807, f1, f2, f3, f4, f5, f6⟩, 0))  :
    Calls Tryz.prog 17 #[.pointer (some ⟨b, 0, none⟩), .int .i64 at_, .agg (Hd.cells ⟨h0, h1, h2, h3, h4, h5, h6⟩)] W fun e w' => e = .returned (.tuple #[.agg (noHd).cells, .int .i64 14]) ∧ Sat E w' (isRef b D :: L) := by
  have hx0 := x.alloc (.cells #[.int .i64 h0, .int .i64 h1, .int .i64 h2, .int .i64 h3, .int .i64 h4, .int .i64 h5, .int .i64 h6] 33)
  obtain ⟨qh, hqh⟩ : ∃ q, W.heap.size = q := ⟨_, rfl⟩
  rw [hqh] at hx0
  have hx1 := zx hx0
  rw [World.size_alloc, hqh] at hx1
  obtain ⟨q, hq⟩ : ∃ q, qh + 1 = q := ⟨_, rfl⟩
  rw [hq] at hx1
  have hfd := refFind_ok hx1.p2 hm ok a0 a1 hR
  rw [hF] at hfd
  dsimp only at hfd
  have HFD := Lib.hid hfd
  have HX0 := Lib.hid hx1
  clear x hx0 hx1 hfd hF hR
  rw [show Hd.cells ⟨h0, h1, h2, h3, h4, h5, h6⟩ = #[.int .i64 h0, .int .i64 h1, .int .i64 h2, .int .i64 h3, .int .i64 h4, .int .i64 h5, .int .i64 h6] from rfl]
  go_enter Tryz.func17, Tryz.ntmps17
  go_wp2_with (first
    | (go_at_call 15; with_reducible refine HFD.out.mono ?_; rintro e1 w1 ⟨rfl, hx1⟩; obtain ⟨p, hp⟩ : ∃ p, w1.heap.size = p := ⟨_, rfl⟩; have HX1 := Lib.hid (zx hx1); rw [hp] at HX1; clear hx1 HX0)
    | (with_reducible refine wpList_store_hd (HX1.out) (⟨9223372036854775807, f1, f2, f3, f4, f5, f6⟩) ?_ ?_; exact ⟨rfl, _, _, rfl, rfl, rfl⟩
       intro w2 hx2
       obtain ⟨c0, -⟩ := hd7 hx2
       obtain ⟨d0, d1, d2, d3, d4, d5, d6⟩ := hd7 hx2.p3
       have z0 := frozen_blk hx2.p3.at 0
       have HX2 := Lib.hid hx2
       clear hx2 HX1)
    | (go_at_call 40
       have hx3 := HX2.out.p3.setCell 0 (.int .i64 (9223372036854775807 + 1))
       simp only [List.setIfInBounds_toArray, List.set_cons_zero] at hx3
       have hpt := refHdCheck_ok hx3 ⟨9223372036854775807 + 1, h1, h2, h3, h4, h5, h6⟩
       rw [HOK.out] at hpt
       rw [show Hd.cells ⟨9223372036854775807 + 1, h1, h2, h3, h4, h5, h6⟩ = #[.int .i64 (9223372036854775807 + 1), .int .i64 h1, .int .i64 h2, .int .i64 h3, .int .i64 h4, .int .i64 h5, .int .i64 h6] from rfl] at hpt
       with_reducible refine hpt.mono ?_
       clear hpt hx3
       rintro e4 w4 ⟨rfl, hx4⟩
       clear d0 d1 d2 d3 d4 d5 d6
       obtain ⟨d0, d1, d2, d3, d4, d5, d6⟩ := hd7 hx4
       have HX4 := Lib.hid hx4.p2
       clear hx4 HX2)
    | (with_reducible refine wpList_store_hd (HX2.out.p2) (noHd) ?_ ?_; exact ⟨rfl, _, _, rfl, rfl, rfl⟩
       intro w9 hx9
       have hlf := load_hd hx9
       have HX9 := Lib.hid hx9
       clear hx9 HX2))
  refine bodyPost_ret (v := .tuple #[.agg (Hd.cells noHd), .int .i64 14]) ?_ rfl ⟨rfl, HX9.out.tail.tail.p1.tail⟩
  rw [results_cell_tmp rfl]
  simp only [asAddr, Array.getD_eq_getD_getElem?, List.getElem?_toArray, List.getElem?_cons_succ, List.getElem?_cons_zero, Option.getD_some, Sem.run_pure, Result.andThen_ok, hlf]

set_option maxRecDepth 100000 in
set_option maxHeartbeats 1600000 in
theorem rsave_form0 {E W : World} {L : List HP} {b : Nat} {D : Dk} {at_ f0 f1 f2 f3 f4 f5 f6 h0 h1 h2 h3 h4 h5 h6 : Int} (x : Sat E W (isRef b D :: L)) (hm : madeB D = true) (ok : OkD D) (a0 : -1000 ≤ at_) (a1 : at_ ≤ 1000) (hR : ∀ i, (readV D i).size ≤ 9223372036854775807)
    (hF : findR D at_ = (⟨f0, f1, f2, f3, f4, f5, f6⟩, 0)) (f00 : 0 ≤ f0) (f01 : f0 < 9223372036854775807) (hI : Hd.Int64 ⟨f0 + 1, h1, h2, h3, h4, h5, h6⟩) (hok : okHd ⟨f0 + 1, h1, h2, h3, h4, h5, h6⟩ = false) :
    Calls Tryz.prog 17 #[.pointer (some ⟨b, 0, none⟩), .int .i64 at_, .agg (Hd.cells ⟨h0, h1, h2, h3, h4, h5, h6⟩)] W fun e w' => e = .returned (.tuple #[.agg (noHd).cells, .int .i64 14]) ∧ Sat E w' (isRef b D :: L) := by
  have hx0 := x.alloc (.cells #[.int .i64 h0, .int .i64 h1, .int .i64 h2, .int .i64 h3, .int .i64 h4, .int .i64 h5, .int .i64 h6] 33)
  obtain ⟨qh, hqh⟩ : ∃ q, W.heap.size = q := ⟨_, rfl⟩
  rw [hqh] at hx0
  have hx1 := zx hx0
  rw [World.size_alloc, hqh] at hx1
  obtain ⟨q, hq⟩ : ∃ q, qh + 1 = q := ⟨_, rfl⟩
  rw [hq] at hx1
  have hfd := refFind_ok hx1.p2 hm ok a0 a1 hR
  rw [hF] at hfd
  dsimp only at hfd
  have HFD := Lib.hid hfd
  have HX0 := Lib.hid hx1
  have HI := Lib.hid hI
  clear hI
  have HOK := Lib.hid hok
  clear hok
  have hfm : (f0 == 9223372036854775807) = false := beq_eq_false_iff_ne.2 (by omega)
  have hf1 : f0 + 1 ≤ 9223372036854775807 := by omega
  clear x hx0 hx1 hfd hF hR
  rw [show Hd.cells ⟨h0, h1, h2, h3, h4, h5, h6⟩ = #[.int .i64 h0, .int .i64 h1, .int .i64 h2, .int .i64 h3, .int .i64 h4, .int .i64 h5, .int .i64 h6] from rfl]
  go_enter Tryz.func17, Tryz.ntmps17
  go_wp2_with (first
    | (go_at_call 15; with_reducible refine HFD.out.mono ?_; rintro e1 w1 ⟨rfl, hx1⟩; obtain ⟨p, hp⟩ : ∃ p, w1.heap.size = p := ⟨_, rfl⟩; have HX1 := Lib.hid (zx hx1); rw [hp] at HX1; clear hx1 HX0)
    | (with_reducible refine wpList_store_hd (HX1.out) (⟨f0, f1, f2, f3, f4, f5, f6⟩) ?_ ?_; exact ⟨rfl, _, _, rfl, rfl, rfl⟩
       intro w2 hx2
       obtain ⟨c0, -⟩ := hd7 hx2
       obtain ⟨d0, d1, d2, d3, d4, d5, d6⟩ := hd7 hx2.p3
       have z0 := frozen_blk hx2.p3.at 0
       have HX2 := Lib.hid hx2
       clear hx2 HX1)
    | (go_at_call 40
       have hx3 := HX2.out.p3.setCell 0 (.int .i64 (f0 + 1))
       simp only [List.setIfInBounds_toArray, List.set_cons_zero] at hx3
       have hpt := refHdCheck_ok hx3 ⟨f0 + 1, h1, h2, h3, h4, h5, h6⟩
       rw [HOK.out] at hpt
       rw [show Hd.cells ⟨f0 + 1, h1, h2, h3, h4, h5, h6⟩ = #[.int .i64 (f0 + 1), .int .i64 h1, .int .i64 h2, .int .i64 h3, .int .i64 h4, .int .i64 h5, .int .i64 h6] from rfl] at hpt
       with_reducible refine hpt.mono ?_
       clear hpt hx3
       rintro e4 w4 ⟨rfl, hx4⟩
       clear d0 d1 d2 d3 d4 d5 d6
       obtain ⟨d0, d1, d2, d3, d4, d5, d6⟩ := hd7 hx4
       have HX4 := Lib.hid hx4.p2
       clear hx4 HX2)
    | (with_reducible refine wpList_store_hd (HX4.out.p3) (noHd) ?_ ?_; exact ⟨rfl, _, _, rfl, rfl, rfl⟩
       intro w9 hx9
       have hlf := load_hd hx9
       have HX9 := Lib.hid hx9
       clear hx9 HX4))
  refine bodyPost_ret (v := .tuple #[.agg (Hd.cells noHd), .int .i64 14]) ?_ rfl ⟨rfl, HX9.out.tail.p1.tail.p1.tail⟩
  rw [results_cell_tmp rfl]
  simp only [asAddr, Array.getD_eq_getD_getElem?, List.getElem?_toArray, List.getElem?_cons_succ, List.getElem?_cons_zero, Option.getD_some, Sem.run_pure, Result.andThen_ok, hlf]

set_option maxRecDepth 100000 in
set_option maxHeartbeats 1600000 in
theorem rsave_write0 {E W : World} {L : List HP} {b : Nat} {D D1 : Dk} {at_ f0 f1 f2 f3 f4 f5 f6 h0 h1 h2 h3 h4 h5 h6 we : Int} (x : Sat E W (isRef b D :: L)) (hm : madeB D = true) (ok : OkD D) (a0 : -1000 ≤ at_) (a1 : at_ ≤ 1000) (hR : ∀ i, (readV D i).size ≤ 9223372036854775807)
    (hF : findR D at_ = (⟨f0, f1, f2, f3, f4, f5, f6⟩, 0)) (f00 : 0 ≤ f0) (f01 : f0 < 9223372036854775807) (hI : Hd.Int64 ⟨f0 + 1, h1, h2, h3, h4, h5, h6⟩) (hw1 : D.writes < 1000000) (hok : okHd ⟨f0 + 1, h1, h2, h3, h4, h5, h6⟩ = true) (hwe : writeE D (at_ + (f0 + 1) % 2) (headB ⟨f0 + 1, h1, h2, h3, h4, h5, h6⟩) = we) (hwd : writeD D (at_ + (f0 + 1) % 2) (headB ⟨f0 + 1, h1, h2, h3, h4, h5, h6⟩) = D1) (we0 : we ≠ 0) :
    Calls Tryz.prog 17 #[.pointer (some ⟨b, 0, none⟩), .int .i64 at_, .agg (Hd.cells ⟨h0, h1, h2, h3, h4, h5, h6⟩)] W fun e w' => e = .returned (.tuple #[.agg (noHd).cells, .int .i64 we]) ∧ Sat E w' (isRef b D1 :: L) := by
  have hx0 := x.alloc (.cells #[.int .i64 h0, .int .i64 h1, .int .i64 h2, .int .i64 h3, .int .i64 h4, .int .i64 h5, .int .i64 h6] 33)
  obtain ⟨qh, hqh⟩ : ∃ q, W.heap.size = q := ⟨_, rfl⟩
  rw [hqh] at hx0
  have hx1 := zx hx0
  rw [World.size_alloc, hqh] at hx1
  obtain ⟨q, hq⟩ : ∃ q, qh + 1 = q := ⟨_, rfl⟩
  rw [hq] at hx1
  have hfd := refFind_ok hx1.p2 hm ok a0 a1 hR
  rw [hF] at hfd
  dsimp only at hfd
  have HFD := Lib.hid hfd
  have HX0 := Lib.hid hx1
  have HI := Lib.hid hI
  clear hI
  have HOK := Lib.hid hok
  clear hok
  have hfm : (f0 == 9223372036854775807) = false := beq_eq_false_iff_ne.2 (by omega)
  have hf1 : f0 + 1 ≤ 9223372036854775807 := by omega
  have hsz : (headB ⟨f0 + 1, h1, h2, h3, h4, h5, h6⟩).size ≤ 9223372036854775807 := by rw [headB_size]; omega
  obtain ⟨S, hS⟩ : ∃ S, headB ⟨f0 + 1, h1, h2, h3, h4, h5, h6⟩ = S := ⟨_, rfl⟩
  rw [hS] at hsz hwe hwd
  have HSB := Lib.hid hS
  have HSZ := Lib.hid hsz
  have HWE := Lib.hid hwe
  have HWD := Lib.hid hwd
  clear hsz hwe hwd hS
  have bwe : (we == 0) = false := beq_eq_false_iff_ne.2 we0
  have bwe2 : (we != 0) = true := by simp [we0]
  clear x hx0 hx1 hfd hF hR
  rw [show Hd.cells ⟨h0, h1, h2, h3, h4, h5, h6⟩ = #[.int .i64 h0, .int .i64 h1, .int .i64 h2, .int .i64 h3, .int .i64 h4, .int .i64 h5, .int .i64 h6] from rfl]
  go_enter Tryz.func17, Tryz.ntmps17
  go_wp2_with (first
    | (go_at_call 15; with_reducible refine HFD.out.mono ?_; rintro e1 w1 ⟨rfl, hx1⟩; obtain ⟨p, hp⟩ : ∃ p, w1.heap.size = p := ⟨_, rfl⟩; have HX1 := Lib.hid (zx hx1); rw [hp] at HX1; clear hx1 HX0)
    | (with_reducible refine wpList_store_hd (HX1.out) (⟨f0, f1, f2, f3, f4, f5, f6⟩) ?_ ?_; exact ⟨rfl, _, _, rfl, rfl, rfl⟩
       intro w2 hx2
       obtain ⟨c0, -⟩ := hd7 hx2
       obtain ⟨d0, d1, d2, d3, d4, d5, d6⟩ := hd7 hx2.p3
       have z0 := frozen_blk hx2.p3.at 0
       have HX2 := Lib.hid hx2
       clear hx2 HX1)
    | (go_at_call 40
       have hx3 := HX2.out.p3.setCell 0 (.int .i64 (f0 + 1))
       simp only [List.setIfInBounds_toArray, List.set_cons_zero] at hx3
       have hpt := refHdCheck_ok hx3 ⟨f0 + 1, h1, h2, h3, h4, h5, h6⟩
       rw [HOK.out] at hpt
       rw [show Hd.cells ⟨f0 + 1, h1, h2, h3, h4, h5, h6⟩ = #[.int .i64 (f0 + 1), .int .i64 h1, .int .i64 h2, .int .i64 h3, .int .i64 h4, .int .i64 h5, .int .i64 h6] from rfl] at hpt
       with_reducible refine hpt.mono ?_
       clear hpt hx3
       rintro e4 w4 ⟨rfl, hx4⟩
       clear d0 d1 d2 d3 d4 d5 d6
       obtain ⟨d0, d1, d2, d3, d4, d5, d6⟩ := hd7 hx4
       have HX4 := Lib.hid hx4.p2
       clear hx4 HX2))
  clear d0 d1 d2 d3 d4 d5 d6
  have hx44 := HX4.out.drew
  clear HX4
  have HX4 := Lib.hid hx44
  clear hx44
  obtain ⟨d0, d1, d2, d3, d4, d5, d6⟩ := hd7 HX4.out.p1
  refine wp_region_planL [(0, true), (1, true), (2, true), (3, true), (4, true), (5, true), (6, true), (7, false), (8, false), (9, true)]
    [(10, fun w1 => w1.cell? ⟨qh, 0, none⟩ = some (.int .i64 (f0 + 1)) ∧ w1.cell? ⟨qh, 1, none⟩ = some (.int .i64 h1) ∧ w1.cell? ⟨qh, 2, none⟩ = some (.int .i64 h2) ∧ w1.cell? ⟨qh, 3, none⟩ = some (.int .i64 h3) ∧ w1.cell? ⟨qh, 4, none⟩ = some (.int .i64 h4) ∧ w1.cell? ⟨qh, 5, none⟩ = some (.int .i64 h5) ∧ w1.cell? ⟨qh, 6, none⟩ = some (.int .i64 h6))] (by kernel_rfl) (by kernel_rfl) (by intro c a d v w h; cases d <;> exact h) ?_ ?_
  · exact ⟨⟨d0, d1, d2, d3, d4, d5, d6⟩, trivial⟩
  simp only [planOps, List.getElem?_cons_zero, List.getElem?_cons_succ]
  iterate 7 (first | ((apply plan_pure rfl; (intro w1; go_simp; try go_bits); with_reducible rfl); try simp only [Act.put, List.setIfInBounds_toArray, List.set_cons_zero, List.set_cons_succ]) | ((refine' plan_load 0 rfl (by kernel_rfl) rfl ?_ ?_; rotate_left; (intro w1 hw1; go_simp; with_reducible rfl)); try simp only [Act.put, List.setIfInBounds_toArray, List.set_cons_zero, List.set_cons_succ]))
  refine plan_loud rfl (fun K hK => ?_); go_simp
  have hby := refBytes_ok HX4.out ⟨f0 + 1, h1, h2, h3, h4, h5, h6⟩ (HI.out.nat HOK.out)
  rw [HSB.out] at hby
  rw [show Hd.cells ⟨f0 + 1, h1, h2, h3, h4, h5, h6⟩ = #[.int .i64 (f0 + 1), .int .i64 h1, .int .i64 h2, .int .i64 h3, .int .i64 h4, .int .i64 h5, .int .i64 h6] from rfl] at hby
  refine hby.mono ?_
  clear hby
  rintro e5 w5 ⟨rfl, hx5⟩
  dsimp only
  clear d0 d1 d2 d3 d4 d5 d6
  obtain ⟨d0, d1, d2, d3, d4, d5, d6⟩ := hd7 hx5.p1
  refine hK _ _ ⟨⟨d0, d1, d2, d3, d4, d5, d6⟩, trivial⟩ ?_
  clear hK K
  have HX45 := Lib.hid hx5
  clear hx5 HX4
  try simp only [Act.put, List.setIfInBounds_toArray, List.set_cons_zero, List.set_cons_succ]
  refine plan_loud rfl (fun K hK => ?_); go_simp
  refine (refwrite_ok HX45.out hm ok hw1 _ S HSZ.out).mono ?_
  rintro e5 w6 ⟨rfl, hx5⟩
  rw [HWE.out]
  rw [HWD.out] at hx5
  clear d0 d1 d2 d3 d4 d5 d6
  obtain ⟨d0, d1, d2, d3, d4, d5, d6⟩ := hd7 hx5.p1
  refine hK _ _ ⟨⟨d0, d1, d2, d3, d4, d5, d6⟩, trivial⟩ ?_
  clear hK K
  have HX5 := Lib.hid hx5
  clear hx5 HX45
  try simp only [Act.put, List.setIfInBounds_toArray, List.set_cons_zero, List.set_cons_succ]
  iterate 1 (first | ((apply plan_pure rfl; (intro w1; go_simp; try go_bits); with_reducible rfl); try simp only [Act.put, List.setIfInBounds_toArray, List.set_cons_zero, List.set_cons_succ]) | ((refine' plan_load 0 rfl (by kernel_rfl) rfl ?_ ?_; rotate_left; (intro w1 hw1; go_simp; with_reducible rfl)); try simp only [Act.put, List.setIfInBounds_toArray, List.set_cons_zero, List.set_cons_succ]))
  refine plan_nil ?_
  go_wp2_with (first
    | (go_at_call 42; with_reducible refine (refbarrierNO HX5.out HM1.out HOK1.out HB1.out).mono ?_; rintro e6 w6 ⟨rfl, hx6⟩; rw [HBE.out]; rw [HBD.out] at hx6; clear d0 d1 d2 d3 d4 d5 d6; obtain ⟨d0, d1, d2, d3, d4, d5, d6⟩ := hd7 hx6.p1; have HX6 := Lib.hid hx6; clear hx6 HX5)
    | (with_reducible refine wpList_store_hd (HX5.out.p3) (noHd) ?_ ?_; exact ⟨rfl, _, _, rfl, rfl, rfl⟩
       intro w9 hx9
       have hlf := load_hd hx9
       have HX9 := Lib.hid hx9
       clear hx9 HX5))
  refine bodyPost_ret (v := .tuple #[.agg (Hd.cells noHd), .int .i64 we]) ?_ rfl ⟨rfl, HX9.out.tail.p1.tail.p1.tail⟩
  rw [results_cell_tmp rfl]
  simp only [asAddr, Array.getD_eq_getD_getElem?, List.getElem?_toArray, List.getElem?_cons_succ, List.getElem?_cons_zero, Option.getD_some, Sem.run_pure, Result.andThen_ok, hlf]

set_option maxRecDepth 100000 in
set_option maxHeartbeats 1600000 in
theorem rsave_bar0 {E W : World} {L : List HP} {b : Nat} {D D1 D2 : Dk} {at_ f0 f1 f2 f3 f4 f5 f6 h0 h1 h2 h3 h4 h5 h6 be : Int} (x : Sat E W (isRef b D :: L)) (hm : madeB D = true) (ok : OkD D) (a0 : -1000 ≤ at_) (a1 : at_ ≤ 1000) (hR : ∀ i, (readV D i).size ≤ 9223372036854775807)
    (hF : findR D at_ = (⟨f0, f1, f2, f3, f4, f5, f6⟩, 0)) (f00 : 0 ≤ f0) (f01 : f0 < 9223372036854775807) (hI : Hd.Int64 ⟨f0 + 1, h1, h2, h3, h4, h5, h6⟩) (hw1 : D.writes < 1000000) (hok : okHd ⟨f0 + 1, h1, h2, h3, h4, h5, h6⟩ = true) (hwe : writeE D (at_ + (f0 + 1) % 2) (headB ⟨f0 + 1, h1, h2, h3, h4, h5, h6⟩) = 0) (hwd : writeD D (at_ + (f0 + 1) % 2) (headB ⟨f0 + 1, h1, h2, h3, h4, h5, h6⟩) = D1) (hm1 : madeB D1 = true) (ok1 : OkD D1) (hb1 : D1.barriers < 1000000) (hbd : barrierD D1 = D2) (hbe : barrierE D1 = be) (be0 : be ≠ 0) :
    Calls Tryz.prog 17 #[.pointer (some ⟨b, 0, none⟩), .int .i64 at_, .agg (Hd.cells ⟨h0, h1, h2, h3, h4, h5, h6⟩)] W fun e w' => e = .returned (.tuple #[.agg (noHd).cells, .int .i64 be]) ∧ Sat E w' (isRef b D2 :: L) := by
  have hx0 := x.alloc (.cells #[.int .i64 h0, .int .i64 h1, .int .i64 h2, .int .i64 h3, .int .i64 h4, .int .i64 h5, .int .i64 h6] 33)
  obtain ⟨qh, hqh⟩ : ∃ q, W.heap.size = q := ⟨_, rfl⟩
  rw [hqh] at hx0
  have hx1 := zx hx0
  rw [World.size_alloc, hqh] at hx1
  obtain ⟨q, hq⟩ : ∃ q, qh + 1 = q := ⟨_, rfl⟩
  rw [hq] at hx1
  have hfd := refFind_ok hx1.p2 hm ok a0 a1 hR
  rw [hF] at hfd
  dsimp only at hfd
  have HFD := Lib.hid hfd
  have HX0 := Lib.hid hx1
  have HI := Lib.hid hI
  clear hI
  have HOK := Lib.hid hok
  clear hok
  have hfm : (f0 == 9223372036854775807) = false := beq_eq_false_iff_ne.2 (by omega)
  have hf1 : f0 + 1 ≤ 9223372036854775807 := by omega
  have hsz : (headB ⟨f0 + 1, h1, h2, h3, h4, h5, h6⟩).size ≤ 9223372036854775807 := by rw [headB_size]; omega
  obtain ⟨S, hS⟩ : ∃ S, headB ⟨f0 + 1, h1, h2, h3, h4, h5, h6⟩ = S := ⟨_, rfl⟩
  rw [hS] at hsz hwe hwd
  have HSB := Lib.hid hS
  have HSZ := Lib.hid hsz
  have HWE := Lib.hid hwe
  have HWD := Lib.hid hwd
  clear hsz hwe hwd hS
  have HM1 := Lib.hid hm1
  have HOK1 := Lib.hid ok1
  have HB1 := Lib.hid hb1
  have HBE := Lib.hid hbe
  have HBD := Lib.hid hbd
  clear hm1 ok1 hb1 hbe hbd
  have bbe2 : (be != 0) = true := by simp [be0]
  clear x hx0 hx1 hfd hF hR
  rw [show Hd.cells ⟨h0, h1, h2, h3, h4, h5, h6⟩ = #[.int .i64 h0, .int .i64 h1, .int .i64 h2, .int .i64 h3, .int .i64 h4, .int .i64 h5, .int .i64 h6] from rfl]
  go_enter Tryz.func17, Tryz.ntmps17
  go_wp2_with (first
    | (go_at_call 15; with_reducible refine HFD.out.mono ?_; rintro e1 w1 ⟨rfl, hx1⟩; obtain ⟨p, hp⟩ : ∃ p, w1.heap.size = p := ⟨_, rfl⟩; have HX1 := Lib.hid (zx hx1); rw [hp] at HX1; clear hx1 HX0)
    | (with_reducible refine wpList_store_hd (HX1.out) (⟨f0, f1, f2, f3, f4, f5, f6⟩) ?_ ?_; exact ⟨rfl, _, _, rfl, rfl, rfl⟩
       intro w2 hx2
       obtain ⟨c0, -⟩ := hd7 hx2
       obtain ⟨d0, d1, d2, d3, d4, d5, d6⟩ := hd7 hx2.p3
       have z0 := frozen_blk hx2.p3.at 0
       have HX2 := Lib.hid hx2
       clear hx2 HX1)
    | (go_at_call 40
       have hx3 := HX2.out.p3.setCell 0 (.int .i64 (f0 + 1))
       simp only [List.setIfInBounds_toArray, List.set_cons_zero] at hx3
       have hpt := refHdCheck_ok hx3 ⟨f0 + 1, h1, h2, h3, h4, h5, h6⟩
       rw [HOK.out] at hpt
       rw [show Hd.cells ⟨f0 + 1, h1, h2, h3, h4, h5, h6⟩ = #[.int .i64 (f0 + 1), .int .i64 h1, .int .i64 h2, .int .i64 h3, .int .i64 h4, .int .i64 h5, .int .i64 h6] from rfl] at hpt
       with_reducible refine hpt.mono ?_
       clear hpt hx3
       rintro e4 w4 ⟨rfl, hx4⟩
       clear d0 d1 d2 d3 d4 d5 d6
       obtain ⟨d0, d1, d2, d3, d4, d5, d6⟩ := hd7 hx4
       have HX4 := Lib.hid hx4.p2
       clear hx4 HX2))
  clear d0 d1 d2 d3 d4 d5 d6
  have hx44 := HX4.out.drew
  clear HX4
  have HX4 := Lib.hid hx44
  clear hx44
  obtain ⟨d0, d1, d2, d3, d4, d5, d6⟩ := hd7 HX4.out.p1
  refine wp_region_planL [(0, true), (1, true), (2, true), (3, true), (4, true), (5, true), (6, true), (7, false), (8, false), (9, true)]
    [(10, fun w1 => w1.cell? ⟨qh, 0, none⟩ = some (.int .i64 (f0 + 1)) ∧ w1.cell? ⟨qh, 1, none⟩ = some (.int .i64 h1) ∧ w1.cell? ⟨qh, 2, none⟩ = some (.int .i64 h2) ∧ w1.cell? ⟨qh, 3, none⟩ = some (.int .i64 h3) ∧ w1.cell? ⟨qh, 4, none⟩ = some (.int .i64 h4) ∧ w1.cell? ⟨qh, 5, none⟩ = some (.int .i64 h5) ∧ w1.cell? ⟨qh, 6, none⟩ = some (.int .i64 h6))] (by kernel_rfl) (by kernel_rfl) (by intro c a d v w h; cases d <;> exact h) ?_ ?_
  · exact ⟨⟨d0, d1, d2, d3, d4, d5, d6⟩, trivial⟩
  simp only [planOps, List.getElem?_cons_zero, List.getElem?_cons_succ]
  iterate 7 (first | ((apply plan_pure rfl; (intro w1; go_simp; try go_bits); with_reducible rfl); try simp only [Act.put, List.setIfInBounds_toArray, List.set_cons_zero, List.set_cons_succ]) | ((refine' plan_load 0 rfl (by kernel_rfl) rfl ?_ ?_; rotate_left; (intro w1 hw1; go_simp; with_reducible rfl)); try simp only [Act.put, List.setIfInBounds_toArray, List.set_cons_zero, List.set_cons_succ]))
  refine plan_loud rfl (fun K hK => ?_); go_simp
  have hby := refBytes_ok HX4.out ⟨f0 + 1, h1, h2, h3, h4, h5, h6⟩ (HI.out.nat HOK.out)
  rw [HSB.out] at hby
  rw [show Hd.cells ⟨f0 + 1, h1, h2, h3, h4, h5, h6⟩ = #[.int .i64 (f0 + 1), .int .i64 h1, .int .i64 h2, .int .i64 h3, .int .i64 h4, .int .i64 h5, .int .i64 h6] from rfl] at hby
  refine hby.mono ?_
  clear hby
  rintro e5 w5 ⟨rfl, hx5⟩
  dsimp only
  clear d0 d1 d2 d3 d4 d5 d6
  obtain ⟨d0, d1, d2, d3, d4, d5, d6⟩ := hd7 hx5.p1
  refine hK _ _ ⟨⟨d0, d1, d2, d3, d4, d5, d6⟩, trivial⟩ ?_
  clear hK K
  have HX45 := Lib.hid hx5
  clear hx5 HX4
  try simp only [Act.put, List.setIfInBounds_toArray, List.set_cons_zero, List.set_cons_succ]
  refine plan_loud rfl (fun K hK => ?_); go_simp
  refine (refwrite_ok HX45.out hm ok hw1 _ S HSZ.out).mono ?_
  rintro e5 w6 ⟨rfl, hx5⟩
  rw [HWE.out]
  rw [HWD.out] at hx5
  clear d0 d1 d2 d3 d4 d5 d6
  obtain ⟨d0, d1, d2, d3, d4, d5, d6⟩ := hd7 hx5.p1
  refine hK _ _ ⟨⟨d0, d1, d2, d3, d4, d5, d6⟩, trivial⟩ ?_
  clear hK K
  have HX5 := Lib.hid hx5
  clear hx5 HX45
  try simp only [Act.put, List.setIfInBounds_toArray, List.set_cons_zero, List.set_cons_succ]
  iterate 1 (first | ((apply plan_pure rfl; (intro w1; go_simp; try go_bits); with_reducible rfl); try simp only [Act.put, List.setIfInBounds_toArray, List.set_cons_zero, List.set_cons_succ]) | ((refine' plan_load 0 rfl (by kernel_rfl) rfl ?_ ?_; rotate_left; (intro w1 hw1; go_simp; with_reducible rfl)); try simp only [Act.put, List.setIfInBounds_toArray, List.set_cons_zero, List.set_cons_succ]))
  refine plan_nil ?_
  go_wp2_with (first
    | (go_at_call 42; with_reducible refine (refbarrier_ok HX5.out HM1.out HOK1.out HB1.out).mono ?_; rintro e6 w6 ⟨rfl, hx6⟩; rw [HBE.out]; rw [HBD.out] at hx6; clear d0 d1 d2 d3 d4 d5 d6; obtain ⟨d0, d1, d2, d3, d4, d5, d6⟩ := hd7 hx6.p1; have HX6 := Lib.hid hx6; clear hx6 HX5)
    | (with_reducible refine wpList_store_hd (HX6.out.p3) (noHd) ?_ ?_; exact ⟨rfl, _, _, rfl, rfl, rfl⟩
       intro w9 hx9
       have hlf := load_hd hx9
       have HX9 := Lib.hid hx9
       clear hx9 HX6))
  refine bodyPost_ret (v := .tuple #[.agg (Hd.cells noHd), .int .i64 be]) ?_ rfl ⟨rfl, HX9.out.tail.p1.tail.p1.tail⟩
  rw [results_cell_tmp rfl]
  simp only [asAddr, Array.getD_eq_getD_getElem?, List.getElem?_toArray, List.getElem?_cons_succ, List.getElem?_cons_zero, Option.getD_some, Sem.run_pure, Result.andThen_ok, hlf]

set_option maxRecDepth 100000 in
set_option maxHeartbeats 1600000 in
theorem rsave_yes0 {E W : World} {L : List HP} {b : Nat} {D D1 D2 : Dk} {at_ f0 f1 f2 f3 f4 f5 f6 h0 h1 h2 h3 h4 h5 h6 : Int} (x : Sat E W (isRef b D :: L)) (hm : madeB D = true) (ok : OkD D) (a0 : -1000 ≤ at_) (a1 : at_ ≤ 1000) (hR : ∀ i, (readV D i).size ≤ 9223372036854775807)
    (hF : findR D at_ = (⟨f0, f1, f2, f3, f4, f5, f6⟩, 0)) (f00 : 0 ≤ f0) (f01 : f0 < 9223372036854775807) (hI : Hd.Int64 ⟨f0 + 1, h1, h2, h3, h4, h5, h6⟩) (hw1 : D.writes < 1000000) (hok : okHd ⟨f0 + 1, h1, h2, h3, h4, h5, h6⟩ = true) (hwe : writeE D (at_ + (f0 + 1) % 2) (headB ⟨f0 + 1, h1, h2, h3, h4, h5, h6⟩) = 0) (hwd : writeD D (at_ + (f0 + 1) % 2) (headB ⟨f0 + 1, h1, h2, h3, h4, h5, h6⟩) = D1) (hm1 : madeB D1 = true) (ok1 : OkD D1) (hb1 : D1.barriers < 1000000) (hbd : barrierD D1 = D2) (hbe : barrierE D1 = 0) :
    Calls Tryz.prog 17 #[.pointer (some ⟨b, 0, none⟩), .int .i64 at_, .agg (Hd.cells ⟨h0, h1, h2, h3, h4, h5, h6⟩)] W fun e w' => e = .returned (.tuple #[.agg ((⟨f0 + 1, h1, h2, h3, h4, h5, h6⟩ : Hd)).cells, .int .i64 0]) ∧ Sat E w' (isRef b D2 :: L) := by
  have hx0 := x.alloc (.cells #[.int .i64 h0, .int .i64 h1, .int .i64 h2, .int .i64 h3, .int .i64 h4, .int .i64 h5, .int .i64 h6] 33)
  obtain ⟨qh, hqh⟩ : ∃ q, W.heap.size = q := ⟨_, rfl⟩
  rw [hqh] at hx0
  have hx1 := zx hx0
  rw [World.size_alloc, hqh] at hx1
  obtain ⟨q, hq⟩ : ∃ q, qh + 1 = q := ⟨_, rfl⟩
  rw [hq] at hx1
  have hfd := refFind_ok hx1.p2 hm ok a0 a1 hR
  rw [hF] at hfd
  dsimp only at hfd
  have HFD := Lib.hid hfd
  have HX0 := Lib.hid hx1
  have HI := Lib.hid hI
  clear hI
  have HOK := Lib.hid hok
  clear hok
  have hfm : (f0 == 9223372036854775807) = false := beq_eq_false_iff_ne.2 (by omega)
  have hf1 : f0 + 1 ≤ 9223372036854775807 := by omega
  have hsz : (headB ⟨f0 + 1, h1, h2, h3, h4, h5, h6⟩).size ≤ 9223372036854775807 := by rw [headB_size]; omega
  obtain ⟨S, hS⟩ : ∃ S, headB ⟨f0 + 1, h1, h2, h3, h4, h5, h6⟩ = S := ⟨_, rfl⟩
  rw [hS] at hsz hwe hwd
  have HSB := Lib.hid hS
  have HSZ := Lib.hid hsz
  have HWE := Lib.hid hwe
  have HWD := Lib.hid hwd
  clear hsz hwe hwd hS
  have HM1 := Lib.hid hm1
  have HOK1 := Lib.hid ok1
  have HB1 := Lib.hid hb1
  have HBE := Lib.hid hbe
  have HBD := Lib.hid hbd
  clear hm1 ok1 hb1 hbe hbd
  clear x hx0 hx1 hfd hF hR
  rw [show Hd.cells ⟨h0, h1, h2, h3, h4, h5, h6⟩ = #[.int .i64 h0, .int .i64 h1, .int .i64 h2, .int .i64 h3, .int .i64 h4, .int .i64 h5, .int .i64 h6] from rfl]
  go_enter Tryz.func17, Tryz.ntmps17
  go_wp2_with (first
    | (go_at_call 15; with_reducible refine HFD.out.mono ?_; rintro e1 w1 ⟨rfl, hx1⟩; obtain ⟨p, hp⟩ : ∃ p, w1.heap.size = p := ⟨_, rfl⟩; have HX1 := Lib.hid (zx hx1); rw [hp] at HX1; clear hx1 HX0)
    | (with_reducible refine wpList_store_hd (HX1.out) (⟨f0, f1, f2, f3, f4, f5, f6⟩) ?_ ?_; exact ⟨rfl, _, _, rfl, rfl, rfl⟩
       intro w2 hx2
       obtain ⟨c0, -⟩ := hd7 hx2
       obtain ⟨d0, d1, d2, d3, d4, d5, d6⟩ := hd7 hx2.p3
       have z0 := frozen_blk hx2.p3.at 0
       have HX2 := Lib.hid hx2
       clear hx2 HX1)
    | (go_at_call 40
       have hx3 := HX2.out.p3.setCell 0 (.int .i64 (f0 + 1))
       simp only [List.setIfInBounds_toArray, List.set_cons_zero] at hx3
       have hpt := refHdCheck_ok hx3 ⟨f0 + 1, h1, h2, h3, h4, h5, h6⟩
       rw [HOK.out] at hpt
       rw [show Hd.cells ⟨f0 + 1, h1, h2, h3, h4, h5, h6⟩ = #[.int .i64 (f0 + 1), .int .i64 h1, .int .i64 h2, .int .i64 h3, .int .i64 h4, .int .i64 h5, .int .i64 h6] from rfl] at hpt
       with_reducible refine hpt.mono ?_
       clear hpt hx3
       rintro e4 w4 ⟨rfl, hx4⟩
       clear d0 d1 d2 d3 d4 d5 d6
       obtain ⟨d0, d1, d2, d3, d4, d5, d6⟩ := hd7 hx4
       have HX4 := Lib.hid hx4.p2
       clear hx4 HX2))
  clear d0 d1 d2 d3 d4 d5 d6
  have hx44 := HX4.out.drew
  clear HX4
  have HX4 := Lib.hid hx44
  clear hx44
  obtain ⟨d0, d1, d2, d3, d4, d5, d6⟩ := hd7 HX4.out.p1
  refine wp_region_planL [(0, true), (1, true), (2, true), (3, true), (4, true), (5, true), (6, true), (7, false), (8, false), (9, true)]
    [(10, fun w1 => w1.cell? ⟨qh, 0, none⟩ = some (.int .i64 (f0 + 1)) ∧ w1.cell? ⟨qh, 1, none⟩ = some (.int .i64 h1) ∧ w1.cell? ⟨qh, 2, none⟩ = some (.int .i64 h2) ∧ w1.cell? ⟨qh, 3, none⟩ = some (.int .i64 h3) ∧ w1.cell? ⟨qh, 4, none⟩ = some (.int .i64 h4) ∧ w1.cell? ⟨qh, 5, none⟩ = some (.int .i64 h5) ∧ w1.cell? ⟨qh, 6, none⟩ = some (.int .i64 h6))] (by kernel_rfl) (by kernel_rfl) (by intro c a d v w h; cases d <;> exact h) ?_ ?_
  · exact ⟨⟨d0, d1, d2, d3, d4, d5, d6⟩, trivial⟩
  simp only [planOps, List.getElem?_cons_zero, List.getElem?_cons_succ]
  iterate 7 (first | ((apply plan_pure rfl; (intro w1; go_simp; try go_bits); with_reducible rfl); try simp only [Act.put, List.setIfInBounds_toArray, List.set_cons_zero, List.set_cons_succ]) | ((refine' plan_load 0 rfl (by kernel_rfl) rfl ?_ ?_; rotate_left; (intro w1 hw1; go_simp; with_reducible rfl)); try simp only [Act.put, List.setIfInBounds_toArray, List.set_cons_zero, List.set_cons_succ]))
  refine plan_loud rfl (fun K hK => ?_); go_simp
  have hby := refBytes_ok HX4.out ⟨f0 + 1, h1, h2, h3, h4, h5, h6⟩ (HI.out.nat HOK.out)
  rw [HSB.out] at hby
  rw [show Hd.cells ⟨f0 + 1, h1, h2, h3, h4, h5, h6⟩ = #[.int .i64 (f0 + 1), .int .i64 h1, .int .i64 h2, .int .i64 h3, .int .i64 h4, .int .i64 h5, .int .i64 h6] from rfl] at hby
  refine hby.mono ?_
  clear hby
  rintro e5 w5 ⟨rfl, hx5⟩
  dsimp only
  clear d0 d1 d2 d3 d4 d5 d6
  obtain ⟨d0, d1, d2, d3, d4, d5, d6⟩ := hd7 hx5.p1
  refine hK _ _ ⟨⟨d0, d1, d2, d3, d4, d5, d6⟩, trivial⟩ ?_
  clear hK K
  have HX45 := Lib.hid hx5
  clear hx5 HX4
  try simp only [Act.put, List.setIfInBounds_toArray, List.set_cons_zero, List.set_cons_succ]
  refine plan_loud rfl (fun K hK => ?_); go_simp
  refine (refwrite_ok HX45.out hm ok hw1 _ S HSZ.out).mono ?_
  rintro e5 w6 ⟨rfl, hx5⟩
  rw [HWE.out]
  rw [HWD.out] at hx5
  clear d0 d1 d2 d3 d4 d5 d6
  obtain ⟨d0, d1, d2, d3, d4, d5, d6⟩ := hd7 hx5.p1
  refine hK _ _ ⟨⟨d0, d1, d2, d3, d4, d5, d6⟩, trivial⟩ ?_
  clear hK K
  have HX5 := Lib.hid hx5
  clear hx5 HX45
  try simp only [Act.put, List.setIfInBounds_toArray, List.set_cons_zero, List.set_cons_succ]
  iterate 1 (first | ((apply plan_pure rfl; (intro w1; go_simp; try go_bits); with_reducible rfl); try simp only [Act.put, List.setIfInBounds_toArray, List.set_cons_zero, List.set_cons_succ]) | ((refine' plan_load 0 rfl (by kernel_rfl) rfl ?_ ?_; rotate_left; (intro w1 hw1; go_simp; with_reducible rfl)); try simp only [Act.put, List.setIfInBounds_toArray, List.set_cons_zero, List.set_cons_succ]))
  refine plan_nil ?_
  go_wp2_with (first
    | (go_at_call 42; with_reducible refine (refbarrier_ok HX5.out HM1.out HOK1.out HB1.out).mono ?_; rintro e6 w6 ⟨rfl, hx6⟩; rw [HBE.out]; rw [HBD.out] at hx6; clear d0 d1 d2 d3 d4 d5 d6; obtain ⟨d0, d1, d2, d3, d4, d5, d6⟩ := hd7 hx6.p1; have HX6 := Lib.hid hx6; clear hx6 HX5)
    | (with_reducible refine wpList_store_hd (HX6.out.p3) (⟨f0 + 1, h1, h2, h3, h4, h5, h6⟩) ?_ ?_; exact ⟨rfl, _, _, rfl, rfl, rfl⟩
       intro w9 hx9
       have hlf := load_hd hx9
       have HX9 := Lib.hid hx9
       clear hx9 HX6))
  refine bodyPost_ret (v := .tuple #[.agg (Hd.cells ⟨f0 + 1, h1, h2, h3, h4, h5, h6⟩), .int .i64 0]) ?_ rfl ⟨rfl, HX9.out.tail.p1.tail.p1.tail⟩
  rw [results_cell_tmp rfl]
  simp only [asAddr, Array.getD_eq_getD_getElem?, List.getElem?_toArray, List.getElem?_cons_succ, List.getElem?_cons_zero, Option.getD_some, Sem.run_pure, Result.andThen_ok, hlf]

set_option maxRecDepth 100000 in
set_option maxHeartbeats 1600000 in
theorem rsave_full32 {E W : World} {L : List HP} {b : Nat} {D : Dk} {at_ f1 f2 f3 f4 f5 f6 h0 h1 h2 h3 h4 h5 h6 : Int} (x : Sat E W (isRef b D :: L)) (hm : madeB D = true) (ok : OkD D) (a0 : -1000 ≤ at_) (a1 : at_ ≤ 1000) (hR : ∀ i, (readV D i).size ≤ 9223372036854775807)
    (hF : findR D at_ = (⟨9223372036854775807, f1, f2, f3, f4, f5, f6⟩, 32))  :
    Calls Tryz.prog 17 #[.pointer (some ⟨b, 0, none⟩), .int .i64 at_, .agg (Hd.cells ⟨h0, h1, h2, h3, h4, h5, h6⟩)] W fun e w' => e = .returned (.tuple #[.agg (noHd).cells, .int .i64 14]) ∧ Sat E w' (isRef b D :: L) := by
  have hx0 := x.alloc (.cells #[.int .i64 h0, .int .i64 h1, .int .i64 h2, .int .i64 h3, .int .i64 h4, .int .i64 h5, .int .i64 h6] 33)
  obtain ⟨qh, hqh⟩ : ∃ q, W.heap.size = q := ⟨_, rfl⟩
  rw [hqh] at hx0
  have hx1 := zx hx0
  rw [World.size_alloc, hqh] at hx1
  obtain ⟨q, hq⟩ : ∃ q, qh + 1 = q := ⟨_, rfl⟩
  rw [hq] at hx1
  have hfd := refFind_ok hx1.p2 hm ok a0 a1 hR
  rw [hF] at hfd
  dsimp only at hfd
  have HFD := Lib.hid hfd
  have HX0 := Lib.hid hx1
  clear x hx0 hx1 hfd hF hR
  rw [show Hd.cells ⟨h0, h1, h2, h3, h4, h5, h6⟩ = #[.int .i64 h0, .int .i64 h1, .int .i64 h2, .int .i64 h3, .int .i64 h4, .int .i64 h5, .int .i64 h6] from rfl]
  go_enter Tryz.func17, Tryz.ntmps17
  go_wp2_with (first
    | (go_at_call 15; with_reducible refine HFD.out.mono ?_; rintro e1 w1 ⟨rfl, hx1⟩; obtain ⟨p, hp⟩ : ∃ p, w1.heap.size = p := ⟨_, rfl⟩; have HX1 := Lib.hid (zx hx1); rw [hp] at HX1; clear hx1 HX0)
    | (with_reducible refine wpList_store_hd (HX1.out) (⟨9223372036854775807, f1, f2, f3, f4, f5, f6⟩) ?_ ?_; exact ⟨rfl, _, _, rfl, rfl, rfl⟩
       intro w2 hx2
       obtain ⟨c0, -⟩ := hd7 hx2
       obtain ⟨d0, d1, d2, d3, d4, d5, d6⟩ := hd7 hx2.p3
       have z0 := frozen_blk hx2.p3.at 0
       have HX2 := Lib.hid hx2
       clear hx2 HX1)
    | (go_at_call 40
       have hx3 := HX2.out.p3.setCell 0 (.int .i64 (9223372036854775807 + 1))
       simp only [List.setIfInBounds_toArray, List.set_cons_zero] at hx3
       have hpt := refHdCheck_ok hx3 ⟨9223372036854775807 + 1, h1, h2, h3, h4, h5, h6⟩
       rw [HOK.out] at hpt
       rw [show Hd.cells ⟨9223372036854775807 + 1, h1, h2, h3, h4, h5, h6⟩ = #[.int .i64 (9223372036854775807 + 1), .int .i64 h1, .int .i64 h2, .int .i64 h3, .int .i64 h4, .int .i64 h5, .int .i64 h6] from rfl] at hpt
       with_reducible refine hpt.mono ?_
       clear hpt hx3
       rintro e4 w4 ⟨rfl, hx4⟩
       clear d0 d1 d2 d3 d4 d5 d6
       obtain ⟨d0, d1, d2, d3, d4, d5, d6⟩ := hd7 hx4
       have HX4 := Lib.hid hx4.p2
       clear hx4 HX2)
    | (with_reducible refine wpList_store_hd (HX2.out.p2) (noHd) ?_ ?_; exact ⟨rfl, _, _, rfl, rfl, rfl⟩
       intro w9 hx9
       have hlf := load_hd hx9
       have HX9 := Lib.hid hx9
       clear hx9 HX2))
  refine bodyPost_ret (v := .tuple #[.agg (Hd.cells noHd), .int .i64 14]) ?_ rfl ⟨rfl, HX9.out.tail.tail.p1.tail⟩
  rw [results_cell_tmp rfl]
  simp only [asAddr, Array.getD_eq_getD_getElem?, List.getElem?_toArray, List.getElem?_cons_succ, List.getElem?_cons_zero, Option.getD_some, Sem.run_pure, Result.andThen_ok, hlf]

set_option maxRecDepth 100000 in
set_option maxHeartbeats 1600000 in
theorem rsave_form32 {E W : World} {L : List HP} {b : Nat} {D : Dk} {at_ f0 f1 f2 f3 f4 f5 f6 h0 h1 h2 h3 h4 h5 h6 : Int} (x : Sat E W (isRef b D :: L)) (hm : madeB D = true) (ok : OkD D) (a0 : -1000 ≤ at_) (a1 : at_ ≤ 1000) (hR : ∀ i, (readV D i).size ≤ 9223372036854775807)
    (hF : findR D at_ = (⟨f0, f1, f2, f3, f4, f5, f6⟩, 32)) (f00 : 0 ≤ f0) (f01 : f0 < 9223372036854775807) (hI : Hd.Int64 ⟨f0 + 1, h1, h2, h3, h4, h5, h6⟩) (hok : okHd ⟨f0 + 1, h1, h2, h3, h4, h5, h6⟩ = false) :
    Calls Tryz.prog 17 #[.pointer (some ⟨b, 0, none⟩), .int .i64 at_, .agg (Hd.cells ⟨h0, h1, h2, h3, h4, h5, h6⟩)] W fun e w' => e = .returned (.tuple #[.agg (noHd).cells, .int .i64 14]) ∧ Sat E w' (isRef b D :: L) := by
  have hx0 := x.alloc (.cells #[.int .i64 h0, .int .i64 h1, .int .i64 h2, .int .i64 h3, .int .i64 h4, .int .i64 h5, .int .i64 h6] 33)
  obtain ⟨qh, hqh⟩ : ∃ q, W.heap.size = q := ⟨_, rfl⟩
  rw [hqh] at hx0
  have hx1 := zx hx0
  rw [World.size_alloc, hqh] at hx1
  obtain ⟨q, hq⟩ : ∃ q, qh + 1 = q := ⟨_, rfl⟩
  rw [hq] at hx1
  have hfd := refFind_ok hx1.p2 hm ok a0 a1 hR
  rw [hF] at hfd
  dsimp only at hfd
  have HFD := Lib.hid hfd
  have HX0 := Lib.hid hx1
  have HI := Lib.hid hI
  clear hI
  have HOK := Lib.hid hok
  clear hok
  have hfm : (f0 == 9223372036854775807) = false := beq_eq_false_iff_ne.2 (by omega)
  have hf1 : f0 + 1 ≤ 9223372036854775807 := by omega
  clear x hx0 hx1 hfd hF hR
  rw [show Hd.cells ⟨h0, h1, h2, h3, h4, h5, h6⟩ = #[.int .i64 h0, .int .i64 h1, .int .i64 h2, .int .i64 h3, .int .i64 h4, .int .i64 h5, .int .i64 h6] from rfl]
  go_enter Tryz.func17, Tryz.ntmps17
  go_wp2_with (first
    | (go_at_call 15; with_reducible refine HFD.out.mono ?_; rintro e1 w1 ⟨rfl, hx1⟩; obtain ⟨p, hp⟩ : ∃ p, w1.heap.size = p := ⟨_, rfl⟩; have HX1 := Lib.hid (zx hx1); rw [hp] at HX1; clear hx1 HX0)
    | (with_reducible refine wpList_store_hd (HX1.out) (⟨f0, f1, f2, f3, f4, f5, f6⟩) ?_ ?_; exact ⟨rfl, _, _, rfl, rfl, rfl⟩
       intro w2 hx2
       obtain ⟨c0, -⟩ := hd7 hx2
       obtain ⟨d0, d1, d2, d3, d4, d5, d6⟩ := hd7 hx2.p3
       have z0 := frozen_blk hx2.p3.at 0
       have HX2 := Lib.hid hx2
       clear hx2 HX1)
    | (go_at_call 40
       have hx3 := HX2.out.p3.setCell 0 (.int .i64 (f0 + 1))
       simp only [List.setIfInBounds_toArray, List.set_cons_zero] at hx3
       have hpt := refHdCheck_ok hx3 ⟨f0 + 1, h1, h2, h3, h4, h5, h6⟩
       rw [HOK.out] at hpt
       rw [show Hd.cells ⟨f0 + 1, h1, h2, h3, h4, h5, h6⟩ = #[.int .i64 (f0 + 1), .int .i64 h1, .int .i64 h2, .int .i64 h3, .int .i64 h4, .int .i64 h5, .int .i64 h6] from rfl] at hpt
       with_reducible refine hpt.mono ?_
       clear hpt hx3
       rintro e4 w4 ⟨rfl, hx4⟩
       clear d0 d1 d2 d3 d4 d5 d6
       obtain ⟨d0, d1, d2, d3, d4, d5, d6⟩ := hd7 hx4
       have HX4 := Lib.hid hx4.p2
       clear hx4 HX2)
    | (with_reducible refine wpList_store_hd (HX4.out.p3) (noHd) ?_ ?_; exact ⟨rfl, _, _, rfl, rfl, rfl⟩
       intro w9 hx9
       have hlf := load_hd hx9
       have HX9 := Lib.hid hx9
       clear hx9 HX4))
  refine bodyPost_ret (v := .tuple #[.agg (Hd.cells noHd), .int .i64 14]) ?_ rfl ⟨rfl, HX9.out.tail.p1.tail.p1.tail⟩
  rw [results_cell_tmp rfl]
  simp only [asAddr, Array.getD_eq_getD_getElem?, List.getElem?_toArray, List.getElem?_cons_succ, List.getElem?_cons_zero, Option.getD_some, Sem.run_pure, Result.andThen_ok, hlf]

set_option maxRecDepth 100000 in
set_option maxHeartbeats 1600000 in
theorem rsave_write32 {E W : World} {L : List HP} {b : Nat} {D D1 : Dk} {at_ f0 f1 f2 f3 f4 f5 f6 h0 h1 h2 h3 h4 h5 h6 we : Int} (x : Sat E W (isRef b D :: L)) (hm : madeB D = true) (ok : OkD D) (a0 : -1000 ≤ at_) (a1 : at_ ≤ 1000) (hR : ∀ i, (readV D i).size ≤ 9223372036854775807)
    (hF : findR D at_ = (⟨f0, f1, f2, f3, f4, f5, f6⟩, 32)) (f00 : 0 ≤ f0) (f01 : f0 < 9223372036854775807) (hI : Hd.Int64 ⟨f0 + 1, h1, h2, h3, h4, h5, h6⟩) (hw1 : D.writes < 1000000) (hok : okHd ⟨f0 + 1, h1, h2, h3, h4, h5, h6⟩ = true) (hwe : writeE D (at_ + (f0 + 1) % 2) (headB ⟨f0 + 1, h1, h2, h3, h4, h5, h6⟩) = we) (hwd : writeD D (at_ + (f0 + 1) % 2) (headB ⟨f0 + 1, h1, h2, h3, h4, h5, h6⟩) = D1) (we0 : we ≠ 0) :
    Calls Tryz.prog 17 #[.pointer (some ⟨b, 0, none⟩), .int .i64 at_, .agg (Hd.cells ⟨h0, h1, h2, h3, h4, h5, h6⟩)] W fun e w' => e = .returned (.tuple #[.agg (noHd).cells, .int .i64 we]) ∧ Sat E w' (isRef b D1 :: L) := by
  have hx0 := x.alloc (.cells #[.int .i64 h0, .int .i64 h1, .int .i64 h2, .int .i64 h3, .int .i64 h4, .int .i64 h5, .int .i64 h6] 33)
  obtain ⟨qh, hqh⟩ : ∃ q, W.heap.size = q := ⟨_, rfl⟩
  rw [hqh] at hx0
  have hx1 := zx hx0
  rw [World.size_alloc, hqh] at hx1
  obtain ⟨q, hq⟩ : ∃ q, qh + 1 = q := ⟨_, rfl⟩
  rw [hq] at hx1
  have hfd := refFind_ok hx1.p2 hm ok a0 a1 hR
  rw [hF] at hfd
  dsimp only at hfd
  have HFD := Lib.hid hfd
  have HX0 := Lib.hid hx1
  have HI := Lib.hid hI
  clear hI
  have HOK := Lib.hid hok
  clear hok
  have hfm : (f0 == 9223372036854775807) = false := beq_eq_false_iff_ne.2 (by omega)
  have hf1 : f0 + 1 ≤ 9223372036854775807 := by omega
  have hsz : (headB ⟨f0 + 1, h1, h2, h3, h4, h5, h6⟩).size ≤ 9223372036854775807 := by rw [headB_size]; omega
  obtain ⟨S, hS⟩ : ∃ S, headB ⟨f0 + 1, h1, h2, h3, h4, h5, h6⟩ = S := ⟨_, rfl⟩
  rw [hS] at hsz hwe hwd
  have HSB := Lib.hid hS
  have HSZ := Lib.hid hsz
  have HWE := Lib.hid hwe
  have HWD := Lib.hid hwd
  clear hsz hwe hwd hS
  have bwe : (we == 0) = false := beq_eq_false_iff_ne.2 we0
  have bwe2 : (we != 0) = true := by simp [we0]
  clear x hx0 hx1 hfd hF hR
  rw [show Hd.cells ⟨h0, h1, h2, h3, h4, h5, h6⟩ = #[.int .i64 h0, .int .i64 h1, .int .i64 h2, .int .i64 h3, .int .i64 h4, .int .i64 h5, .int .i64 h6] from rfl]
  go_enter Tryz.func17, Tryz.ntmps17
  go_wp2_with (first
    | (go_at_call 15; with_reducible refine HFD.out.mono ?_; rintro e1 w1 ⟨rfl, hx1⟩; obtain ⟨p, hp⟩ : ∃ p, w1.heap.size = p := ⟨_, rfl⟩; have HX1 := Lib.hid (zx hx1); rw [hp] at HX1; clear hx1 HX0)
    | (with_reducible refine wpList_store_hd (HX1.out) (⟨f0, f1, f2, f3, f4, f5, f6⟩) ?_ ?_; exact ⟨rfl, _, _, rfl, rfl, rfl⟩
       intro w2 hx2
       obtain ⟨c0, -⟩ := hd7 hx2
       obtain ⟨d0, d1, d2, d3, d4, d5, d6⟩ := hd7 hx2.p3
       have z0 := frozen_blk hx2.p3.at 0
       have HX2 := Lib.hid hx2
       clear hx2 HX1)
    | (go_at_call 40
       have hx3 := HX2.out.p3.setCell 0 (.int .i64 (f0 + 1))
       simp only [List.setIfInBounds_toArray, List.set_cons_zero] at hx3
       have hpt := refHdCheck_ok hx3 ⟨f0 + 1, h1, h2, h3, h4, h5, h6⟩
       rw [HOK.out] at hpt
       rw [show Hd.cells ⟨f0 + 1, h1, h2, h3, h4, h5, h6⟩ = #[.int .i64 (f0 + 1), .int .i64 h1, .int .i64 h2, .int .i64 h3, .int .i64 h4, .int .i64 h5, .int .i64 h6] from rfl] at hpt
       with_reducible refine hpt.mono ?_
       clear hpt hx3
       rintro e4 w4 ⟨rfl, hx4⟩
       clear d0 d1 d2 d3 d4 d5 d6
       obtain ⟨d0, d1, d2, d3, d4, d5, d6⟩ := hd7 hx4
       have HX4 := Lib.hid hx4.p2
       clear hx4 HX2))
  clear d0 d1 d2 d3 d4 d5 d6
  have hx44 := HX4.out.drew
  clear HX4
  have HX4 := Lib.hid hx44
  clear hx44
  obtain ⟨d0, d1, d2, d3, d4, d5, d6⟩ := hd7 HX4.out.p1
  refine wp_region_planL [(0, true), (1, true), (2, true), (3, true), (4, true), (5, true), (6, true), (7, false), (8, false), (9, true)]
    [(10, fun w1 => w1.cell? ⟨qh, 0, none⟩ = some (.int .i64 (f0 + 1)) ∧ w1.cell? ⟨qh, 1, none⟩ = some (.int .i64 h1) ∧ w1.cell? ⟨qh, 2, none⟩ = some (.int .i64 h2) ∧ w1.cell? ⟨qh, 3, none⟩ = some (.int .i64 h3) ∧ w1.cell? ⟨qh, 4, none⟩ = some (.int .i64 h4) ∧ w1.cell? ⟨qh, 5, none⟩ = some (.int .i64 h5) ∧ w1.cell? ⟨qh, 6, none⟩ = some (.int .i64 h6))] (by kernel_rfl) (by kernel_rfl) (by intro c a d v w h; cases d <;> exact h) ?_ ?_
  · exact ⟨⟨d0, d1, d2, d3, d4, d5, d6⟩, trivial⟩
  simp only [planOps, List.getElem?_cons_zero, List.getElem?_cons_succ]
  iterate 7 (first | ((apply plan_pure rfl; (intro w1; go_simp; try go_bits); with_reducible rfl); try simp only [Act.put, List.setIfInBounds_toArray, List.set_cons_zero, List.set_cons_succ]) | ((refine' plan_load 0 rfl (by kernel_rfl) rfl ?_ ?_; rotate_left; (intro w1 hw1; go_simp; with_reducible rfl)); try simp only [Act.put, List.setIfInBounds_toArray, List.set_cons_zero, List.set_cons_succ]))
  refine plan_loud rfl (fun K hK => ?_); go_simp
  have hby := refBytes_ok HX4.out ⟨f0 + 1, h1, h2, h3, h4, h5, h6⟩ (HI.out.nat HOK.out)
  rw [HSB.out] at hby
  rw [show Hd.cells ⟨f0 + 1, h1, h2, h3, h4, h5, h6⟩ = #[.int .i64 (f0 + 1), .int .i64 h1, .int .i64 h2, .int .i64 h3, .int .i64 h4, .int .i64 h5, .int .i64 h6] from rfl] at hby
  refine hby.mono ?_
  clear hby
  rintro e5 w5 ⟨rfl, hx5⟩
  dsimp only
  clear d0 d1 d2 d3 d4 d5 d6
  obtain ⟨d0, d1, d2, d3, d4, d5, d6⟩ := hd7 hx5.p1
  refine hK _ _ ⟨⟨d0, d1, d2, d3, d4, d5, d6⟩, trivial⟩ ?_
  clear hK K
  have HX45 := Lib.hid hx5
  clear hx5 HX4
  try simp only [Act.put, List.setIfInBounds_toArray, List.set_cons_zero, List.set_cons_succ]
  refine plan_loud rfl (fun K hK => ?_); go_simp
  refine (refwrite_ok HX45.out hm ok hw1 _ S HSZ.out).mono ?_
  rintro e5 w6 ⟨rfl, hx5⟩
  rw [HWE.out]
  rw [HWD.out] at hx5
  clear d0 d1 d2 d3 d4 d5 d6
  obtain ⟨d0, d1, d2, d3, d4, d5, d6⟩ := hd7 hx5.p1
  refine hK _ _ ⟨⟨d0, d1, d2, d3, d4, d5, d6⟩, trivial⟩ ?_
  clear hK K
  have HX5 := Lib.hid hx5
  clear hx5 HX45
  try simp only [Act.put, List.setIfInBounds_toArray, List.set_cons_zero, List.set_cons_succ]
  iterate 1 (first | ((apply plan_pure rfl; (intro w1; go_simp; try go_bits); with_reducible rfl); try simp only [Act.put, List.setIfInBounds_toArray, List.set_cons_zero, List.set_cons_succ]) | ((refine' plan_load 0 rfl (by kernel_rfl) rfl ?_ ?_; rotate_left; (intro w1 hw1; go_simp; with_reducible rfl)); try simp only [Act.put, List.setIfInBounds_toArray, List.set_cons_zero, List.set_cons_succ]))
  refine plan_nil ?_
  go_wp2_with (first
    | (go_at_call 42; with_reducible refine (refbarrierNO HX5.out HM1.out HOK1.out HB1.out).mono ?_; rintro e6 w6 ⟨rfl, hx6⟩; rw [HBE.out]; rw [HBD.out] at hx6; clear d0 d1 d2 d3 d4 d5 d6; obtain ⟨d0, d1, d2, d3, d4, d5, d6⟩ := hd7 hx6.p1; have HX6 := Lib.hid hx6; clear hx6 HX5)
    | (with_reducible refine wpList_store_hd (HX5.out.p3) (noHd) ?_ ?_; exact ⟨rfl, _, _, rfl, rfl, rfl⟩
       intro w9 hx9
       have hlf := load_hd hx9
       have HX9 := Lib.hid hx9
       clear hx9 HX5))
  refine bodyPost_ret (v := .tuple #[.agg (Hd.cells noHd), .int .i64 we]) ?_ rfl ⟨rfl, HX9.out.tail.p1.tail.p1.tail⟩
  rw [results_cell_tmp rfl]
  simp only [asAddr, Array.getD_eq_getD_getElem?, List.getElem?_toArray, List.getElem?_cons_succ, List.getElem?_cons_zero, Option.getD_some, Sem.run_pure, Result.andThen_ok, hlf]

set_option maxRecDepth 100000 in
set_option maxHeartbeats 1600000 in
theorem rsave_bar32 {E W : World} {L : List HP} {b : Nat} {D D1 D2 : Dk} {at_ f0 f1 f2 f3 f4 f5 f6 h0 h1 h2 h3 h4 h5 h6 be : Int} (x : Sat E W (isRef b D :: L)) (hm : madeB D = true) (ok : OkD D) (a0 : -1000 ≤ at_) (a1 : at_ ≤ 1000) (hR : ∀ i, (readV D i).size ≤ 9223372036854775807)
    (hF : findR D at_ = (⟨f0, f1, f2, f3, f4, f5, f6⟩, 32)) (f00 : 0 ≤ f0) (f01 : f0 < 9223372036854775807) (hI : Hd.Int64 ⟨f0 + 1, h1, h2, h3, h4, h5, h6⟩) (hw1 : D.writes < 1000000) (hok : okHd ⟨f0 + 1, h1, h2, h3, h4, h5, h6⟩ = true) (hwe : writeE D (at_ + (f0 + 1) % 2) (headB ⟨f0 + 1, h1, h2, h3, h4, h5, h6⟩) = 0) (hwd : writeD D (at_ + (f0 + 1) % 2) (headB ⟨f0 + 1, h1, h2, h3, h4, h5, h6⟩) = D1) (hm1 : madeB D1 = true) (ok1 : OkD D1) (hb1 : D1.barriers < 1000000) (hbd : barrierD D1 = D2) (hbe : barrierE D1 = be) (be0 : be ≠ 0) :
    Calls Tryz.prog 17 #[.pointer (some ⟨b, 0, none⟩), .int .i64 at_, .agg (Hd.cells ⟨h0, h1, h2, h3, h4, h5, h6⟩)] W fun e w' => e = .returned (.tuple #[.agg (noHd).cells, .int .i64 be]) ∧ Sat E w' (isRef b D2 :: L) := by
  have hx0 := x.alloc (.cells #[.int .i64 h0, .int .i64 h1, .int .i64 h2, .int .i64 h3, .int .i64 h4, .int .i64 h5, .int .i64 h6] 33)
  obtain ⟨qh, hqh⟩ : ∃ q, W.heap.size = q := ⟨_, rfl⟩
  rw [hqh] at hx0
  have hx1 := zx hx0
  rw [World.size_alloc, hqh] at hx1
  obtain ⟨q, hq⟩ : ∃ q, qh + 1 = q := ⟨_, rfl⟩
  rw [hq] at hx1
  have hfd := refFind_ok hx1.p2 hm ok a0 a1 hR
  rw [hF] at hfd
  dsimp only at hfd
  have HFD := Lib.hid hfd
  have HX0 := Lib.hid hx1
  have HI := Lib.hid hI
  clear hI
  have HOK := Lib.hid hok
  clear hok
  have hfm : (f0 == 9223372036854775807) = false := beq_eq_false_iff_ne.2 (by omega)
  have hf1 : f0 + 1 ≤ 9223372036854775807 := by omega
  have hsz : (headB ⟨f0 + 1, h1, h2, h3, h4, h5, h6⟩).size ≤ 9223372036854775807 := by rw [headB_size]; omega
  obtain ⟨S, hS⟩ : ∃ S, headB ⟨f0 + 1, h1, h2, h3, h4, h5, h6⟩ = S := ⟨_, rfl⟩
  rw [hS] at hsz hwe hwd
  have HSB := Lib.hid hS
  have HSZ := Lib.hid hsz
  have HWE := Lib.hid hwe
  have HWD := Lib.hid hwd
  clear hsz hwe hwd hS
  have HM1 := Lib.hid hm1
  have HOK1 := Lib.hid ok1
  have HB1 := Lib.hid hb1
  have HBE := Lib.hid hbe
  have HBD := Lib.hid hbd
  clear hm1 ok1 hb1 hbe hbd
  have bbe2 : (be != 0) = true := by simp [be0]
  clear x hx0 hx1 hfd hF hR
  rw [show Hd.cells ⟨h0, h1, h2, h3, h4, h5, h6⟩ = #[.int .i64 h0, .int .i64 h1, .int .i64 h2, .int .i64 h3, .int .i64 h4, .int .i64 h5, .int .i64 h6] from rfl]
  go_enter Tryz.func17, Tryz.ntmps17
  go_wp2_with (first
    | (go_at_call 15; with_reducible refine HFD.out.mono ?_; rintro e1 w1 ⟨rfl, hx1⟩; obtain ⟨p, hp⟩ : ∃ p, w1.heap.size = p := ⟨_, rfl⟩; have HX1 := Lib.hid (zx hx1); rw [hp] at HX1; clear hx1 HX0)
    | (with_reducible refine wpList_store_hd (HX1.out) (⟨f0, f1, f2, f3, f4, f5, f6⟩) ?_ ?_; exact ⟨rfl, _, _, rfl, rfl, rfl⟩
       intro w2 hx2
       obtain ⟨c0, -⟩ := hd7 hx2
       obtain ⟨d0, d1, d2, d3, d4, d5, d6⟩ := hd7 hx2.p3
       have z0 := frozen_blk hx2.p3.at 0
       have HX2 := Lib.hid hx2
       clear hx2 HX1)
    | (go_at_call 40
       have hx3 := HX2.out.p3.setCell 0 (.int .i64 (f0 + 1))
       simp only [List.setIfInBounds_toArray, List.set_cons_zero] at hx3
       have hpt := refHdCheck_ok hx3 ⟨f0 + 1, h1, h2, h3, h4, h5, h6⟩
       rw [HOK.out] at hpt
       rw [show Hd.cells ⟨f0 + 1, h1, h2, h3, h4, h5, h6⟩ = #[.int .i64 (f0 + 1), .int .i64 h1, .int .i64 h2, .int .i64 h3, .int .i64 h4, .int .i64 h5, .int .i64 h6] from rfl] at hpt
       with_reducible refine hpt.mono ?_
       clear hpt hx3
       rintro e4 w4 ⟨rfl, hx4⟩
       clear d0 d1 d2 d3 d4 d5 d6
       obtain ⟨d0, d1, d2, d3, d4, d5, d6⟩ := hd7 hx4
       have HX4 := Lib.hid hx4.p2
       clear hx4 HX2))
  clear d0 d1 d2 d3 d4 d5 d6
  have hx44 := HX4.out.drew
  clear HX4
  have HX4 := Lib.hid hx44
  clear hx44
  obtain ⟨d0, d1, d2, d3, d4, d5, d6⟩ := hd7 HX4.out.p1
  refine wp_region_planL [(0, true), (1, true), (2, true), (3, true), (4, true), (5, true), (6, true), (7, false), (8, false), (9, true)]
    [(10, fun w1 => w1.cell? ⟨qh, 0, none⟩ = some (.int .i64 (f0 + 1)) ∧ w1.cell? ⟨qh, 1, none⟩ = some (.int .i64 h1) ∧ w1.cell? ⟨qh, 2, none⟩ = some (.int .i64 h2) ∧ w1.cell? ⟨qh, 3, none⟩ = some (.int .i64 h3) ∧ w1.cell? ⟨qh, 4, none⟩ = some (.int .i64 h4) ∧ w1.cell? ⟨qh, 5, none⟩ = some (.int .i64 h5) ∧ w1.cell? ⟨qh, 6, none⟩ = some (.int .i64 h6))] (by kernel_rfl) (by kernel_rfl) (by intro c a d v w h; cases d <;> exact h) ?_ ?_
  · exact ⟨⟨d0, d1, d2, d3, d4, d5, d6⟩, trivial⟩
  simp only [planOps, List.getElem?_cons_zero, List.getElem?_cons_succ]
  iterate 7 (first | ((apply plan_pure rfl; (intro w1; go_simp; try go_bits); with_reducible rfl); try simp only [Act.put, List.setIfInBounds_toArray, List.set_cons_zero, List.set_cons_succ]) | ((refine' plan_load 0 rfl (by kernel_rfl) rfl ?_ ?_; rotate_left; (intro w1 hw1; go_simp; with_reducible rfl)); try simp only [Act.put, List.setIfInBounds_toArray, List.set_cons_zero, List.set_cons_succ]))
  refine plan_loud rfl (fun K hK => ?_); go_simp
  have hby := refBytes_ok HX4.out ⟨f0 + 1, h1, h2, h3, h4, h5, h6⟩ (HI.out.nat HOK.out)
  rw [HSB.out] at hby
  rw [show Hd.cells ⟨f0 + 1, h1, h2, h3, h4, h5, h6⟩ = #[.int .i64 (f0 + 1), .int .i64 h1, .int .i64 h2, .int .i64 h3, .int .i64 h4, .int .i64 h5, .int .i64 h6] from rfl] at hby
  refine hby.mono ?_
  clear hby
  rintro e5 w5 ⟨rfl, hx5⟩
  dsimp only
  clear d0 d1 d2 d3 d4 d5 d6
  obtain ⟨d0, d1, d2, d3, d4, d5, d6⟩ := hd7 hx5.p1
  refine hK _ _ ⟨⟨d0, d1, d2, d3, d4, d5, d6⟩, trivial⟩ ?_
  clear hK K
  have HX45 := Lib.hid hx5
  clear hx5 HX4
  try simp only [Act.put, List.setIfInBounds_toArray, List.set_cons_zero, List.set_cons_succ]
  refine plan_loud rfl (fun K hK => ?_); go_simp
  refine (refwrite_ok HX45.out hm ok hw1 _ S HSZ.out).mono ?_
  rintro e5 w6 ⟨rfl, hx5⟩
  rw [HWE.out]
  rw [HWD.out] at hx5
  clear d0 d1 d2 d3 d4 d5 d6
  obtain ⟨d0, d1, d2, d3, d4, d5, d6⟩ := hd7 hx5.p1
  refine hK _ _ ⟨⟨d0, d1, d2, d3, d4, d5, d6⟩, trivial⟩ ?_
  clear hK K
  have HX5 := Lib.hid hx5
  clear hx5 HX45
  try simp only [Act.put, List.setIfInBounds_toArray, List.set_cons_zero, List.set_cons_succ]
  iterate 1 (first | ((apply plan_pure rfl; (intro w1; go_simp; try go_bits); with_reducible rfl); try simp only [Act.put, List.setIfInBounds_toArray, List.set_cons_zero, List.set_cons_succ]) | ((refine' plan_load 0 rfl (by kernel_rfl) rfl ?_ ?_; rotate_left; (intro w1 hw1; go_simp; with_reducible rfl)); try simp only [Act.put, List.setIfInBounds_toArray, List.set_cons_zero, List.set_cons_succ]))
  refine plan_nil ?_
  go_wp2_with (first
    | (go_at_call 42; with_reducible refine (refbarrier_ok HX5.out HM1.out HOK1.out HB1.out).mono ?_; rintro e6 w6 ⟨rfl, hx6⟩; rw [HBE.out]; rw [HBD.out] at hx6; clear d0 d1 d2 d3 d4 d5 d6; obtain ⟨d0, d1, d2, d3, d4, d5, d6⟩ := hd7 hx6.p1; have HX6 := Lib.hid hx6; clear hx6 HX5)
    | (with_reducible refine wpList_store_hd (HX6.out.p3) (noHd) ?_ ?_; exact ⟨rfl, _, _, rfl, rfl, rfl⟩
       intro w9 hx9
       have hlf := load_hd hx9
       have HX9 := Lib.hid hx9
       clear hx9 HX6))
  refine bodyPost_ret (v := .tuple #[.agg (Hd.cells noHd), .int .i64 be]) ?_ rfl ⟨rfl, HX9.out.tail.p1.tail.p1.tail⟩
  rw [results_cell_tmp rfl]
  simp only [asAddr, Array.getD_eq_getD_getElem?, List.getElem?_toArray, List.getElem?_cons_succ, List.getElem?_cons_zero, Option.getD_some, Sem.run_pure, Result.andThen_ok, hlf]

set_option maxRecDepth 100000 in
set_option maxHeartbeats 1600000 in
theorem rsave_yes32 {E W : World} {L : List HP} {b : Nat} {D D1 D2 : Dk} {at_ f0 f1 f2 f3 f4 f5 f6 h0 h1 h2 h3 h4 h5 h6 : Int} (x : Sat E W (isRef b D :: L)) (hm : madeB D = true) (ok : OkD D) (a0 : -1000 ≤ at_) (a1 : at_ ≤ 1000) (hR : ∀ i, (readV D i).size ≤ 9223372036854775807)
    (hF : findR D at_ = (⟨f0, f1, f2, f3, f4, f5, f6⟩, 32)) (f00 : 0 ≤ f0) (f01 : f0 < 9223372036854775807) (hI : Hd.Int64 ⟨f0 + 1, h1, h2, h3, h4, h5, h6⟩) (hw1 : D.writes < 1000000) (hok : okHd ⟨f0 + 1, h1, h2, h3, h4, h5, h6⟩ = true) (hwe : writeE D (at_ + (f0 + 1) % 2) (headB ⟨f0 + 1, h1, h2, h3, h4, h5, h6⟩) = 0) (hwd : writeD D (at_ + (f0 + 1) % 2) (headB ⟨f0 + 1, h1, h2, h3, h4, h5, h6⟩) = D1) (hm1 : madeB D1 = true) (ok1 : OkD D1) (hb1 : D1.barriers < 1000000) (hbd : barrierD D1 = D2) (hbe : barrierE D1 = 0) :
    Calls Tryz.prog 17 #[.pointer (some ⟨b, 0, none⟩), .int .i64 at_, .agg (Hd.cells ⟨h0, h1, h2, h3, h4, h5, h6⟩)] W fun e w' => e = .returned (.tuple #[.agg ((⟨f0 + 1, h1, h2, h3, h4, h5, h6⟩ : Hd)).cells, .int .i64 0]) ∧ Sat E w' (isRef b D2 :: L) := by
  have hx0 := x.alloc (.cells #[.int .i64 h0, .int .i64 h1, .int .i64 h2, .int .i64 h3, .int .i64 h4, .int .i64 h5, .int .i64 h6] 33)
  obtain ⟨qh, hqh⟩ : ∃ q, W.heap.size = q := ⟨_, rfl⟩
  rw [hqh] at hx0
  have hx1 := zx hx0
  rw [World.size_alloc, hqh] at hx1
  obtain ⟨q, hq⟩ : ∃ q, qh + 1 = q := ⟨_, rfl⟩
  rw [hq] at hx1
  have hfd := refFind_ok hx1.p2 hm ok a0 a1 hR
  rw [hF] at hfd
  dsimp only at hfd
  have HFD := Lib.hid hfd
  have HX0 := Lib.hid hx1
  have HI := Lib.hid hI
  clear hI
  have HOK := Lib.hid hok
  clear hok
  have hfm : (f0 == 9223372036854775807) = false := beq_eq_false_iff_ne.2 (by omega)
  have hf1 : f0 + 1 ≤ 9223372036854775807 := by omega
  have hsz : (headB ⟨f0 + 1, h1, h2, h3, h4, h5, h6⟩).size ≤ 9223372036854775807 := by rw [headB_size]; omega
  obtain ⟨S, hS⟩ : ∃ S, headB ⟨f0 + 1, h1, h2, h3, h4, h5, h6⟩ = S := ⟨_, rfl⟩
  rw [hS] at hsz hwe hwd
  have HSB := Lib.hid hS
  have HSZ := Lib.hid hsz
  have HWE := Lib.hid hwe
  have HWD := Lib.hid hwd
  clear hsz hwe hwd hS
  have HM1 := Lib.hid hm1
  have HOK1 := Lib.hid ok1
  have HB1 := Lib.hid hb1
  have HBE := Lib.hid hbe
  have HBD := Lib.hid hbd
  clear hm1 ok1 hb1 hbe hbd
  clear x hx0 hx1 hfd hF hR
  rw [show Hd.cells ⟨h0, h1, h2, h3, h4, h5, h6⟩ = #[.int .i64 h0, .int .i64 h1, .int .i64 h2, .int .i64 h3, .int .i64 h4, .int .i64 h5, .int .i64 h6] from rfl]
  go_enter Tryz.func17, Tryz.ntmps17
  go_wp2_with (first
    | (go_at_call 15; with_reducible refine HFD.out.mono ?_; rintro e1 w1 ⟨rfl, hx1⟩; obtain ⟨p, hp⟩ : ∃ p, w1.heap.size = p := ⟨_, rfl⟩; have HX1 := Lib.hid (zx hx1); rw [hp] at HX1; clear hx1 HX0)
    | (with_reducible refine wpList_store_hd (HX1.out) (⟨f0, f1, f2, f3, f4, f5, f6⟩) ?_ ?_; exact ⟨rfl, _, _, rfl, rfl, rfl⟩
       intro w2 hx2
       obtain ⟨c0, -⟩ := hd7 hx2
       obtain ⟨d0, d1, d2, d3, d4, d5, d6⟩ := hd7 hx2.p3
       have z0 := frozen_blk hx2.p3.at 0
       have HX2 := Lib.hid hx2
       clear hx2 HX1)
    | (go_at_call 40
       have hx3 := HX2.out.p3.setCell 0 (.int .i64 (f0 + 1))
       simp only [List.setIfInBounds_toArray, List.set_cons_zero] at hx3
       have hpt := refHdCheck_ok hx3 ⟨f0 + 1, h1, h2, h3, h4, h5, h6⟩
       rw [HOK.out] at hpt
       rw [show Hd.cells ⟨f0 + 1, h1, h2, h3, h4, h5, h6⟩ = #[.int .i64 (f0 + 1), .int .i64 h1, .int .i64 h2, .int .i64 h3, .int .i64 h4, .int .i64 h5, .int .i64 h6] from rfl] at hpt
       with_reducible refine hpt.mono ?_
       clear hpt hx3
       rintro e4 w4 ⟨rfl, hx4⟩
       clear d0 d1 d2 d3 d4 d5 d6
       obtain ⟨d0, d1, d2, d3, d4, d5, d6⟩ := hd7 hx4
       have HX4 := Lib.hid hx4.p2
       clear hx4 HX2))
  clear d0 d1 d2 d3 d4 d5 d6
  have hx44 := HX4.out.drew
  clear HX4
  have HX4 := Lib.hid hx44
  clear hx44
  obtain ⟨d0, d1, d2, d3, d4, d5, d6⟩ := hd7 HX4.out.p1
  refine wp_region_planL [(0, true), (1, true), (2, true), (3, true), (4, true), (5, true), (6, true), (7, false), (8, false), (9, true)]
    [(10, fun w1 => w1.cell? ⟨qh, 0, none⟩ = some (.int .i64 (f0 + 1)) ∧ w1.cell? ⟨qh, 1, none⟩ = some (.int .i64 h1) ∧ w1.cell? ⟨qh, 2, none⟩ = some (.int .i64 h2) ∧ w1.cell? ⟨qh, 3, none⟩ = some (.int .i64 h3) ∧ w1.cell? ⟨qh, 4, none⟩ = some (.int .i64 h4) ∧ w1.cell? ⟨qh, 5, none⟩ = some (.int .i64 h5) ∧ w1.cell? ⟨qh, 6, none⟩ = some (.int .i64 h6))] (by kernel_rfl) (by kernel_rfl) (by intro c a d v w h; cases d <;> exact h) ?_ ?_
  · exact ⟨⟨d0, d1, d2, d3, d4, d5, d6⟩, trivial⟩
  simp only [planOps, List.getElem?_cons_zero, List.getElem?_cons_succ]
  iterate 7 (first | ((apply plan_pure rfl; (intro w1; go_simp; try go_bits); with_reducible rfl); try simp only [Act.put, List.setIfInBounds_toArray, List.set_cons_zero, List.set_cons_succ]) | ((refine' plan_load 0 rfl (by kernel_rfl) rfl ?_ ?_; rotate_left; (intro w1 hw1; go_simp; with_reducible rfl)); try simp only [Act.put, List.setIfInBounds_toArray, List.set_cons_zero, List.set_cons_succ]))
  refine plan_loud rfl (fun K hK => ?_); go_simp
  have hby := refBytes_ok HX4.out ⟨f0 + 1, h1, h2, h3, h4, h5, h6⟩ (HI.out.nat HOK.out)
  rw [HSB.out] at hby
  rw [show Hd.cells ⟨f0 + 1, h1, h2, h3, h4, h5, h6⟩ = #[.int .i64 (f0 + 1), .int .i64 h1, .int .i64 h2, .int .i64 h3, .int .i64 h4, .int .i64 h5, .int .i64 h6] from rfl] at hby
  refine hby.mono ?_
  clear hby
  rintro e5 w5 ⟨rfl, hx5⟩
  dsimp only
  clear d0 d1 d2 d3 d4 d5 d6
  obtain ⟨d0, d1, d2, d3, d4, d5, d6⟩ := hd7 hx5.p1
  refine hK _ _ ⟨⟨d0, d1, d2, d3, d4, d5, d6⟩, trivial⟩ ?_
  clear hK K
  have HX45 := Lib.hid hx5
  clear hx5 HX4
  try simp only [Act.put, List.setIfInBounds_toArray, List.set_cons_zero, List.set_cons_succ]
  refine plan_loud rfl (fun K hK => ?_); go_simp
  refine (refwrite_ok HX45.out hm ok hw1 _ S HSZ.out).mono ?_
  rintro e5 w6 ⟨rfl, hx5⟩
  rw [HWE.out]
  rw [HWD.out] at hx5
  clear d0 d1 d2 d3 d4 d5 d6
  obtain ⟨d0, d1, d2, d3, d4, d5, d6⟩ := hd7 hx5.p1
  refine hK _ _ ⟨⟨d0, d1, d2, d3, d4, d5, d6⟩, trivial⟩ ?_
  clear hK K
  have HX5 := Lib.hid hx5
  clear hx5 HX45
  try simp only [Act.put, List.setIfInBounds_toArray, List.set_cons_zero, List.set_cons_succ]
  iterate 1 (first | ((apply plan_pure rfl; (intro w1; go_simp; try go_bits); with_reducible rfl); try simp only [Act.put, List.setIfInBounds_toArray, List.set_cons_zero, List.set_cons_succ]) | ((refine' plan_load 0 rfl (by kernel_rfl) rfl ?_ ?_; rotate_left; (intro w1 hw1; go_simp; with_reducible rfl)); try simp only [Act.put, List.setIfInBounds_toArray, List.set_cons_zero, List.set_cons_succ]))
  refine plan_nil ?_
  go_wp2_with (first
    | (go_at_call 42; with_reducible refine (refbarrier_ok HX5.out HM1.out HOK1.out HB1.out).mono ?_; rintro e6 w6 ⟨rfl, hx6⟩; rw [HBE.out]; rw [HBD.out] at hx6; clear d0 d1 d2 d3 d4 d5 d6; obtain ⟨d0, d1, d2, d3, d4, d5, d6⟩ := hd7 hx6.p1; have HX6 := Lib.hid hx6; clear hx6 HX5)
    | (with_reducible refine wpList_store_hd (HX6.out.p3) (⟨f0 + 1, h1, h2, h3, h4, h5, h6⟩) ?_ ?_; exact ⟨rfl, _, _, rfl, rfl, rfl⟩
       intro w9 hx9
       have hlf := load_hd hx9
       have HX9 := Lib.hid hx9
       clear hx9 HX6))
  refine bodyPost_ret (v := .tuple #[.agg (Hd.cells ⟨f0 + 1, h1, h2, h3, h4, h5, h6⟩), .int .i64 0]) ?_ rfl ⟨rfl, HX9.out.tail.p1.tail.p1.tail⟩
  rw [results_cell_tmp rfl]
  simp only [asAddr, Array.getD_eq_getD_getElem?, List.getElem?_toArray, List.getElem?_cons_succ, List.getElem?_cons_zero, Option.getD_some, Sem.run_pure, Result.andThen_ok, hlf]

theorem refSave_ok {E W : World} {L : List HP} {b : Nat} {D : Dk} {at_ : Int} (x : Sat E W (isRef b D :: L)) (hmd : madeB D = true) (ok : OkD D) (a0 : -1000 ≤ at_) (a1 : at_ ≤ 1000) (hR : ∀ i, (readV D i).size ≤ 9223372036854775807) (h : Hd) (hi : h.Int64)
    (hw : D.writes < 1000000) (hl : D.wait.length < 1000000) (hb : D.barriers < 1000000) :
    Calls Tryz.prog 17 #[.pointer (some ⟨b, 0, none⟩), .int .i64 at_, .agg h.cells] W fun e w' => e = .returned (.tuple #[.agg (saveR D at_ h).1.cells, .int .i64 (saveR D at_ h).2.1]) ∧ Sat E w' (isRef b (saveR D at_ h).2.2 :: L) := by
  obtain ⟨fi, fg⟩ := find_fine D at_
  obtain ⟨F, hF⟩ : ∃ F, findR D at_ = F := ⟨_, rfl⟩
  obtain ⟨⟨f0, f1, f2, f3, f4, f5, f6⟩, fe⟩ := F
  obtain ⟨h0, h1, h2, h3, h4, h5, h6⟩ := h
  unfold saveR
  rw [hF] at fi fg ⊢
  dsimp only at fi fg ⊢
  have fg1 : f0 ≤ 9223372036854775807 := fi.g.2
  by_cases he : fe ≠ 0 ∧ fe ≠ 32
  · rw [if_pos he]
    exact rsave_find x hmd ok a0 a1 hR hF he.1 he.2
  · rw [if_neg he]
    have hfe : fe = 0 ∨ fe = 32 := by omega
    by_cases hm : f0 = 9223372036854775807
    · rw [if_pos hm]
      subst hm
      rcases hfe with rfl | rfl
      · exact rsave_full0 x hmd ok a0 a1 hR hF
      · exact rsave_full32 x hmd ok a0 a1 hR hF
    · rw [if_neg hm]
      have hI : Hd.Int64 ⟨f0 + 1, h1, h2, h3, h4, h5, h6⟩ := ⟨⟨by show _ ≤ f0 + 1; omega, by show f0 + 1 ≤ _; omega⟩, hi.e, hi.s, hi.a, hi.z, hi.n, hi.p⟩
      unfold withG
      dsimp only
      cases hok : okHd ⟨f0 + 1, h1, h2, h3, h4, h5, h6⟩ with
      | false =>
        rw [if_neg (by simp)]
        rcases hfe with rfl | rfl
        · exact rsave_form0 x hmd ok a0 a1 hR hF fg (by omega) hI hok
        · exact rsave_form32 x hmd ok a0 a1 hR hF fg (by omega) hI hok
      | true =>
        rw [if_pos rfl]
        unfold putH
        dsimp only
        by_cases hwe : writeE D (at_ + (f0 + 1) % 2) (headB ⟨f0 + 1, h1, h2, h3, h4, h5, h6⟩) = 0
        · rw [if_pos hwe]
          have ok1 := ok.write (at_ + (f0 + 1) % 2) (headB ⟨f0 + 1, h1, h2, h3, h4, h5, h6⟩) hw hl
          have hb1 : (writeD D (at_ + (f0 + 1) % 2) (headB ⟨f0 + 1, h1, h2, h3, h4, h5, h6⟩)).barriers < 1000000 := by
            rw [show (writeD D (at_ + (f0 + 1) % 2) (headB ⟨f0 + 1, h1, h2, h3, h4, h5, h6⟩)).barriers = D.barriers by
              unfold writeD wroteD
              split
              · split <;> exact (burnD_same D).2.2.2
              · rfl]
            exact hb
          by_cases hbe : barrierE (writeD D (at_ + (f0 + 1) % 2) (headB ⟨f0 + 1, h1, h2, h3, h4, h5, h6⟩)) = 0
          · rw [if_pos hbe]
            rcases hfe with rfl | rfl
            · exact rsave_yes0 x hmd ok a0 a1 hR hF fg (by omega) hI hw hok hwe rfl ((madeB_write D _ _).trans hmd) ok1 hb1 rfl hbe
            · exact rsave_yes32 x hmd ok a0 a1 hR hF fg (by omega) hI hw hok hwe rfl ((madeB_write D _ _).trans hmd) ok1 hb1 rfl hbe
          · rw [if_neg hbe]
            rcases hfe with rfl | rfl
            · exact rsave_bar0 x hmd ok a0 a1 hR hF fg (by omega) hI hw hok hwe rfl ((madeB_write D _ _).trans hmd) ok1 hb1 rfl rfl hbe
            · exact rsave_bar32 x hmd ok a0 a1 hR hF fg (by omega) hI hw hok hwe rfl ((madeB_write D _ _).trans hmd) ok1 hb1 rfl rfl hbe
        · rw [if_neg hwe]
          rcases hfe with rfl | rfl
          · exact rsave_write0 x hmd ok a0 a1 hR hF fg (by omega) hI hw hok rfl rfl hwe
          · exact rsave_write32 x hmd ok a0 a1 hR hF fg (by omega) hI hw hok rfl rfl hwe


end Go.Proofs.YtmkpglabiikdeaaGreat
