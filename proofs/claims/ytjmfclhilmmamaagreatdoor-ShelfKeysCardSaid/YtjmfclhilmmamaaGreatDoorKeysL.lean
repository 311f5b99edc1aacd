/-
  Layer 28: the law ShelfKeys, walked.
-/
import Derived.Test.YtjmfclhilmmamaaGreatDoorKeysO
import Derived.Test.YtjmfclhilmmamaaGreatDoorRecK
namespace Go.Proofs.YtjmfclhilmmamaaGreatDoor
open Go.RowKit PH

theorem known_ok (W : World) : Calls Tryz.prog 7 #[] W fun e w' => e = .returned (.bool true) ∧ Below W.heap.size W w' :=
  (PH.R.known_reck W).mono fun e w' h => by
    cases e <;> first | exact ⟨by rw [h.1], h.2⟩ | cases h
def TrueBelow (w : World) (e : Ending) (w' : World) : Prop := e = .returned (.bool true) ∧ Below w.heap.size w w'
theorem to_known {W w w' : World} {L : List HP} (x : Sat W w (heapIs W :: L)) (hb : Below w.heap.size w w') : Below W.heap.size W w' := (x.ofBelow hb).below
theorem toList_ne {s t : ByteArray} (h : ¬ s = t) : (s.toList == t.toList) = false := by
  rw [beq_eq_false_iff_ne, ByteArray.toList_eq, ByteArray.toList_eq]
  exact fun e => h (ByteArray.ext (Array.toList_inj.1 e))
theorem isEmpty_of {s : ByteArray} (h : s = ByteArray.empty) : s.toList.isEmpty = true := by subst h; rw [ByteArray.toList_eq]; rfl
theorem isEmpty_not {s : ByteArray} (h : ¬ s = ByteArray.empty) : s.toList.isEmpty = false := by
  rw [ByteArray.toList_eq]
  cases hl : s.data.toList with
  | nil => exact absurd (ByteArray.ext (Array.toList_inj.1 hl)) h
  | cons _ _ => rfl
set_option maxRecDepth 100000 in
set_option maxHeartbeats 1600000 in
theorem keys_E_eq (a0 a1 a2 a3 a4 a5 a8 a9 : Int) (b0 b1 b2 b3 b4 b5 b8 b9 : Int) (ia ga : Int) (l1 : ia ≤ 9223372036854775807) (l2 : ga ≤ 9223372036854775807) (hE : keyS ia ga = ByteArray.empty) (W : World) : Calls Tryz.prog 3 #[.agg (attrR a0 a1 a2 a3 a4 a5 ia ga a8 a9), .agg (attrR b0 b1 b2 b3 b4 b5 ia ga b8 b9)] W (TrueBelow W) := by
  have hE2 : (keyS ia ga).toList.isEmpty = true := isEmpty_of hE
  have hx0 : Sat W ((W.alloc (.cells (attrR a0 a1 a2 a3 a4 a5 ia ga a8 a9) 23)).alloc (.cells (attrR b0 b1 b2 b3 b4 b5 ia ga b8 b9) 23)) [pt (W.heap.size + 1) (.cells (attrR b0 b1 b2 b3 b4 b5 ia ga b8 b9) 23), pt W.heap.size (.cells (attrR a0 a1 a2 a3 a4 a5 ia ga a8 a9) 23), heapIs W] := by
    have h := ((Sat.start W).alloc (.cells (attrR a0 a1 a2 a3 a4 a5 ia ga a8 a9) 23)).alloc (.cells (attrR b0 b1 b2 b3 b4 b5 ia ga b8 b9) 23)
    simp only [World.size_alloc] at h
    exact h
  go_enter Tryz.func3, Tryz.ntmps3
  go_wp2
  refine wp_region_planL [(0, true), (2, true), (1, false), (3, false), (4, true), (5, true), (6, true), (8, true), (7, false), (9, false), (10, true), (11, true)]
    [(12, fun w1 => (∀ i, w1.cell? ⟨W.heap.size, i, none⟩ = ((attrR a0 a1 a2 a3 a4 a5 ia ga a8 a9))[i]?) ∧ (∀ i, w1.cell? ⟨W.heap.size + 1, i, none⟩ = ((attrR b0 b1 b2 b3 b4 b5 ia ga b8 b9))[i]?))] (by kernel_rfl) (by kernel_rfl) (by intro c a d v w h; cases d <;> exact h) ?_ ?_
  · exact ⟨⟨fun i => cell_blk hx0.drew.p1.at i, fun i => cell_blk hx0.drew.at i⟩, trivial⟩
  simp only [planOps, List.getElem?_cons_zero, List.getElem?_cons_succ]
  iterate 2 (first | ((apply plan_pure rfl; (intro w1; go_simp; try go_bits); with_reducible rfl); try simp only [Act.put, List.setIfInBounds_toArray, List.set_cons_zero, List.set_cons_succ]) | ((refine' plan_load 0 rfl (by kernel_rfl) rfl ?_ ?_; rotate_left; (intro w1 hw1; go_simp; with_reducible rfl)); try simp only [Act.put, List.setIfInBounds_toArray, List.set_cons_zero, List.set_cons_succ]))
  refine plan_loud rfl (fun K hK => ?_); go_simp
  refine (key_ok hx0.drew a0 a1 a2 a3 a4 a5 ia ga a8 a9 l1 l2).mono ?_
  rintro e w1 ⟨rfl, hw1⟩
  dsimp only
  refine hK _ _ ⟨⟨fun i => cell_blk hw1.p1.at i, fun i => cell_blk hw1.at i⟩, trivial⟩ ?_
  clear hK K
  try simp only [Act.put, List.setIfInBounds_toArray, List.set_cons_zero, List.set_cons_succ]
  refine plan_loud rfl (fun K hK => ?_); go_simp
  refine (refKey_ok hw1 a0 a1 a2 a3 a4 a5 ia ga a8 a9 l1 l2).mono ?_
  rintro e w2 ⟨rfl, hw2⟩
  dsimp only
  refine hK _ _ ⟨⟨fun i => cell_blk hw2.p1.at i, fun i => cell_blk hw2.at i⟩, trivial⟩ ?_
  clear hK K
  try simp only [Act.put, List.setIfInBounds_toArray, List.set_cons_zero, List.set_cons_succ]
  iterate 4 (first | ((apply plan_pure rfl; (intro w1; go_simp; try go_bits); with_reducible rfl); try simp only [Act.put, List.setIfInBounds_toArray, List.set_cons_zero, List.set_cons_succ]) | ((refine' plan_load 0 rfl (by kernel_rfl) rfl ?_ ?_; rotate_left; (intro w1 hw1; go_simp; with_reducible rfl)); try simp only [Act.put, List.setIfInBounds_toArray, List.set_cons_zero, List.set_cons_succ]))
  refine plan_loud rfl (fun K hK => ?_); go_simp
  refine (key_ok hw2 b0 b1 b2 b3 b4 b5 ia ga b8 b9 l1 l2).mono ?_
  rintro e w3 ⟨rfl, hw3⟩
  dsimp only
  refine hK _ _ ⟨⟨fun i => cell_blk hw3.p1.at i, fun i => cell_blk hw3.at i⟩, trivial⟩ ?_
  clear hK K
  try simp only [Act.put, List.setIfInBounds_toArray, List.set_cons_zero, List.set_cons_succ]
  refine plan_loud rfl (fun K hK => ?_); go_simp
  refine (refKey_ok hw3 b0 b1 b2 b3 b4 b5 ia ga b8 b9 l1 l2).mono ?_
  rintro e w4 ⟨rfl, hw4⟩
  dsimp only
  refine hK _ _ ⟨⟨fun i => cell_blk hw4.p1.at i, fun i => cell_blk hw4.at i⟩, trivial⟩ ?_
  clear hK K
  try simp only [Act.put, List.setIfInBounds_toArray, List.set_cons_zero, List.set_cons_succ]
  iterate 2 (first | ((apply plan_pure rfl; (intro w1; go_simp; try go_bits); with_reducible rfl); try simp only [Act.put, List.setIfInBounds_toArray, List.set_cons_zero, List.set_cons_succ]) | ((refine' plan_load 0 rfl (by kernel_rfl) rfl ?_ ?_; rotate_left; (intro w1 hw1; go_simp; with_reducible rfl)); try simp only [Act.put, List.setIfInBounds_toArray, List.set_cons_zero, List.set_cons_succ]))
  refine plan_nil ?_
  have c6 : w4.cell? ⟨W.heap.size, 6, none⟩ = some (.int .i64 ia) := cell_blk hw4.p1.at 6
  have c7 : w4.cell? ⟨W.heap.size, 7, none⟩ = some (.int .i64 ga) := cell_blk hw4.p1.at 7
  have d6 : w4.cell? ⟨W.heap.size + 1, 6, none⟩ = some (.int .i64 ia) := cell_blk hw4.at 6
  have d7 : w4.cell? ⟨W.heap.size + 1, 7, none⟩ = some (.int .i64 ga) := cell_blk hw4.at 7
  go_wp2
  refine wp_region_planL [(0, true), (1, false), (2, true), (3, true), (4, true), (6, true), (9, true), (5, false), (7, false), (8, true), (10, true), (11, true), (12, true), (13, false), (14, true), (15, true)]
    [(16, fun w1 => (∀ i, w1.cell? ⟨W.heap.size, i, none⟩ = ((attrR a0 a1 a2 a3 a4 a5 ia ga a8 a9))[i]?) ∧ (∀ i, w1.cell? ⟨W.heap.size + 1, i, none⟩ = ((attrR b0 b1 b2 b3 b4 b5 ia ga b8 b9))[i]?))] (by kernel_rfl) (by kernel_rfl) (by intro c a d v w h; cases d <;> exact h) ?_ ?_
  · exact ⟨⟨fun i => cell_blk hw4.drew.p1.at i, fun i => cell_blk hw4.drew.at i⟩, trivial⟩
  simp only [planOps, List.getElem?_cons_zero, List.getElem?_cons_succ]
  iterate 1 (first | ((apply plan_pure rfl; (intro w1; go_simp; try go_bits); with_reducible rfl); try simp only [Act.put, List.setIfInBounds_toArray, List.set_cons_zero, List.set_cons_succ]) | ((refine' plan_load 0 rfl (by kernel_rfl) rfl ?_ ?_; rotate_left; (intro w1 hw1; go_simp; with_reducible rfl)); try simp only [Act.put, List.setIfInBounds_toArray, List.set_cons_zero, List.set_cons_succ]))
  refine plan_loud rfl (fun K hK => ?_); go_simp
  refine (key_ok hw4.drew a0 a1 a2 a3 a4 a5 ia ga a8 a9 l1 l2).mono ?_
  rintro e w5 ⟨rfl, hw5⟩
  dsimp only
  refine hK _ _ ⟨⟨fun i => cell_blk hw5.p1.at i, fun i => cell_blk hw5.at i⟩, trivial⟩ ?_
  clear hK K
  try simp only [Act.put, List.setIfInBounds_toArray, List.set_cons_zero, List.set_cons_succ]
  iterate 5 (first | (apply plan_skip rfl; try simp only [Act.put, List.setIfInBounds_toArray, List.set_cons_zero, List.set_cons_succ]) | ((apply plan_pure rfl; (intro w1; go_simp; try go_bits); with_reducible rfl); try simp only [Act.put, List.setIfInBounds_toArray, List.set_cons_zero, List.set_cons_succ]) | ((refine' plan_load 0 rfl (by kernel_rfl) rfl ?_ ?_; rotate_left; (intro w1 hw1; go_simp; with_reducible rfl)); try simp only [Act.put, List.setIfInBounds_toArray, List.set_cons_zero, List.set_cons_succ]))
  refine plan_loudSkip rfl ⟨⟨fun i => cell_blk hw5.p1.at i, fun i => cell_blk hw5.at i⟩, trivial⟩ ?_
  try simp only [Act.put, List.setIfInBounds_toArray, List.set_cons_zero, List.set_cons_succ]
  refine plan_loudSkip rfl ⟨⟨fun i => cell_blk hw5.p1.at i, fun i => cell_blk hw5.at i⟩, trivial⟩ ?_
  try simp only [Act.put, List.setIfInBounds_toArray, List.set_cons_zero, List.set_cons_succ]
  iterate 4 (first | (apply plan_skip rfl; try simp only [Act.put, List.setIfInBounds_toArray, List.set_cons_zero, List.set_cons_succ]) | ((apply plan_pure rfl; (intro w1; go_simp; try go_bits); with_reducible rfl); try simp only [Act.put, List.setIfInBounds_toArray, List.set_cons_zero, List.set_cons_succ]) | ((refine' plan_load 0 rfl (by kernel_rfl) rfl ?_ ?_; rotate_left; (intro w1 hw1; go_simp; with_reducible rfl)); try simp only [Act.put, List.setIfInBounds_toArray, List.set_cons_zero, List.set_cons_succ]))
  refine plan_loud rfl (fun K hK => ?_); go_simp
  refine (known_ok _).mono ?_
  rintro e w' ⟨rfl, hbl⟩
  dsimp only
  have hz := hw5.ofBelow hbl
  refine hK _ _ ⟨⟨fun i => cell_blk hz.p1.at i, fun i => cell_blk hz.at i⟩, trivial⟩ ?_
  clear hK K
  try simp only [Act.put, List.setIfInBounds_toArray, List.set_cons_zero, List.set_cons_succ]
  iterate 2 (first | ((apply plan_pure rfl; (intro w1; go_simp; try go_bits); with_reducible rfl); try simp only [Act.put, List.setIfInBounds_toArray, List.set_cons_zero, List.set_cons_succ]) | ((refine' plan_load 0 rfl (by kernel_rfl) rfl ?_ ?_; rotate_left; (intro w1 hw1; go_simp; with_reducible rfl)); try simp only [Act.put, List.setIfInBounds_toArray, List.set_cons_zero, List.set_cons_succ]))
  refine plan_nil ?_
  go_wp2
  go_ret
  exact ⟨rfl, hz.p2.below⟩
set_option maxRecDepth 100000 in
set_option maxHeartbeats 1600000 in
theorem keys_E_id (a0 a1 a2 a3 a4 a5 a8 a9 : Int) (b0 b1 b2 b3 b4 b5 b8 b9 : Int) (ia ga ib gb : Int) (hne : ¬ ia = ib) (l1 : ia ≤ 9223372036854775807) (l2 : ga ≤ 9223372036854775807) (l3 : ib ≤ 9223372036854775807) (l4 : gb ≤ 9223372036854775807) (hE : keyS ia ga = ByteArray.empty) (W : World) : Calls Tryz.prog 3 #[.agg (attrR a0 a1 a2 a3 a4 a5 ia ga a8 a9), .agg (attrR b0 b1 b2 b3 b4 b5 ib gb b8 b9)] W (TrueBelow W) := by
  have hE2 : (keyS ia ga).toList.isEmpty = true := isEmpty_of hE
  have hx0 : Sat W ((W.alloc (.cells (attrR a0 a1 a2 a3 a4 a5 ia ga a8 a9) 23)).alloc (.cells (attrR b0 b1 b2 b3 b4 b5 ib gb b8 b9) 23)) [pt (W.heap.size + 1) (.cells (attrR b0 b1 b2 b3 b4 b5 ib gb b8 b9) 23), pt W.heap.size (.cells (attrR a0 a1 a2 a3 a4 a5 ia ga a8 a9) 23), heapIs W] := by
    have h := ((Sat.start W).alloc (.cells (attrR a0 a1 a2 a3 a4 a5 ia ga a8 a9) 23)).alloc (.cells (attrR b0 b1 b2 b3 b4 b5 ib gb b8 b9) 23)
    simp only [World.size_alloc] at h
    exact h
  go_enter Tryz.func3, Tryz.ntmps3
  go_wp2
  refine wp_region_planL [(0, true), (2, true), (1, false), (3, false), (4, true), (5, true), (6, true), (8, true), (7, false), (9, false), (10, true), (11, true)]
    [(12, fun w1 => (∀ i, w1.cell? ⟨W.heap.size, i, none⟩ = ((attrR a0 a1 a2 a3 a4 a5 ia ga a8 a9))[i]?) ∧ (∀ i, w1.cell? ⟨W.heap.size + 1, i, none⟩ = ((attrR b0 b1 b2 b3 b4 b5 ib gb b8 b9))[i]?))] (by kernel_rfl) (by kernel_rfl) (by intro c a d v w h; cases d <;> exact h) ?_ ?_
  · exact ⟨⟨fun i => cell_blk hx0.drew.p1.at i, fun i => cell_blk hx0.drew.at i⟩, trivial⟩
  simp only [planOps, List.getElem?_cons_zero, List.getElem?_cons_succ]
  iterate 2 (first | ((apply plan_pure rfl; (intro w1; go_simp; try go_bits); with_reducible rfl); try simp only [Act.put, List.setIfInBounds_toArray, List.set_cons_zero, List.set_cons_succ]) | ((refine' plan_load 0 rfl (by kernel_rfl) rfl ?_ ?_; rotate_left; (intro w1 hw1; go_simp; with_reducible rfl)); try simp only [Act.put, List.setIfInBounds_toArray, List.set_cons_zero, List.set_cons_succ]))
  refine plan_loud rfl (fun K hK => ?_); go_simp
  refine (key_ok hx0.drew a0 a1 a2 a3 a4 a5 ia ga a8 a9 l1 l2).mono ?_
  rintro e w1 ⟨rfl, hw1⟩
  dsimp only
  refine hK _ _ ⟨⟨fun i => cell_blk hw1.p1.at i, fun i => cell_blk hw1.at i⟩, trivial⟩ ?_
  clear hK K
  try simp only [Act.put, List.setIfInBounds_toArray, List.set_cons_zero, List.set_cons_succ]
  refine plan_loud rfl (fun K hK => ?_); go_simp
  refine (refKey_ok hw1 a0 a1 a2 a3 a4 a5 ia ga a8 a9 l1 l2).mono ?_
  rintro e w2 ⟨rfl, hw2⟩
  dsimp only
  refine hK _ _ ⟨⟨fun i => cell_blk hw2.p1.at i, fun i => cell_blk hw2.at i⟩, trivial⟩ ?_
  clear hK K
  try simp only [Act.put, List.setIfInBounds_toArray, List.set_cons_zero, List.set_cons_succ]
  iterate 4 (first | ((apply plan_pure rfl; (intro w1; go_simp; try go_bits); with_reducible rfl); try simp only [Act.put, List.setIfInBounds_toArray, List.set_cons_zero, List.set_cons_succ]) | ((refine' plan_load 0 rfl (by kernel_rfl) rfl ?_ ?_; rotate_left; (intro w1 hw1; go_simp; with_reducible rfl)); try simp only [Act.put, List.setIfInBounds_toArray, List.set_cons_zero, List.set_cons_succ]))
  refine plan_loud rfl (fun K hK => ?_); go_simp
  refine (key_ok hw2 b0 b1 b2 b3 b4 b5 ib gb b8 b9 l3 l4).mono ?_
  rintro e w3 ⟨rfl, hw3⟩
  dsimp only
  refine hK _ _ ⟨⟨fun i => cell_blk hw3.p1.at i, fun i => cell_blk hw3.at i⟩, trivial⟩ ?_
  clear hK K
  try simp only [Act.put, List.setIfInBounds_toArray, List.set_cons_zero, List.set_cons_succ]
  refine plan_loud rfl (fun K hK => ?_); go_simp
  refine (refKey_ok hw3 b0 b1 b2 b3 b4 b5 ib gb b8 b9 l3 l4).mono ?_
  rintro e w4 ⟨rfl, hw4⟩
  dsimp only
  refine hK _ _ ⟨⟨fun i => cell_blk hw4.p1.at i, fun i => cell_blk hw4.at i⟩, trivial⟩ ?_
  clear hK K
  try simp only [Act.put, List.setIfInBounds_toArray, List.set_cons_zero, List.set_cons_succ]
  iterate 2 (first | ((apply plan_pure rfl; (intro w1; go_simp; try go_bits); with_reducible rfl); try simp only [Act.put, List.setIfInBounds_toArray, List.set_cons_zero, List.set_cons_succ]) | ((refine' plan_load 0 rfl (by kernel_rfl) rfl ?_ ?_; rotate_left; (intro w1 hw1; go_simp; with_reducible rfl)); try simp only [Act.put, List.setIfInBounds_toArray, List.set_cons_zero, List.set_cons_succ]))
  refine plan_nil ?_
  have c6 : w4.cell? ⟨W.heap.size, 6, none⟩ = some (.int .i64 ia) := cell_blk hw4.p1.at 6
  have c7 : w4.cell? ⟨W.heap.size, 7, none⟩ = some (.int .i64 ga) := cell_blk hw4.p1.at 7
  have d6 : w4.cell? ⟨W.heap.size + 1, 6, none⟩ = some (.int .i64 ib) := cell_blk hw4.at 6
  have d7 : w4.cell? ⟨W.heap.size + 1, 7, none⟩ = some (.int .i64 gb) := cell_blk hw4.at 7
  go_wp2
  refine wp_region_planL [(0, true), (1, false), (2, true), (3, true), (4, true), (6, true), (9, true), (5, false), (7, false), (8, true), (10, true), (11, true), (12, true), (13, false), (14, true), (15, true)]
    [(16, fun w1 => (∀ i, w1.cell? ⟨W.heap.size, i, none⟩ = ((attrR a0 a1 a2 a3 a4 a5 ia ga a8 a9))[i]?) ∧ (∀ i, w1.cell? ⟨W.heap.size + 1, i, none⟩ = ((attrR b0 b1 b2 b3 b4 b5 ib gb b8 b9))[i]?))] (by kernel_rfl) (by kernel_rfl) (by intro c a d v w h; cases d <;> exact h) ?_ ?_
  · exact ⟨⟨fun i => cell_blk hw4.drew.p1.at i, fun i => cell_blk hw4.drew.at i⟩, trivial⟩
  simp only [planOps, List.getElem?_cons_zero, List.getElem?_cons_succ]
  iterate 1 (first | ((apply plan_pure rfl; (intro w1; go_simp; try go_bits); with_reducible rfl); try simp only [Act.put, List.setIfInBounds_toArray, List.set_cons_zero, List.set_cons_succ]) | ((refine' plan_load 0 rfl (by kernel_rfl) rfl ?_ ?_; rotate_left; (intro w1 hw1; go_simp; with_reducible rfl)); try simp only [Act.put, List.setIfInBounds_toArray, List.set_cons_zero, List.set_cons_succ]))
  refine plan_loud rfl (fun K hK => ?_); go_simp
  refine (key_ok hw4.drew a0 a1 a2 a3 a4 a5 ia ga a8 a9 l1 l2).mono ?_
  rintro e w5 ⟨rfl, hw5⟩
  dsimp only
  refine hK _ _ ⟨⟨fun i => cell_blk hw5.p1.at i, fun i => cell_blk hw5.at i⟩, trivial⟩ ?_
  clear hK K
  try simp only [Act.put, List.setIfInBounds_toArray, List.set_cons_zero, List.set_cons_succ]
  iterate 5 (first | (apply plan_skip rfl; try simp only [Act.put, List.setIfInBounds_toArray, List.set_cons_zero, List.set_cons_succ]) | ((apply plan_pure rfl; (intro w1; go_simp; try go_bits); with_reducible rfl); try simp only [Act.put, List.setIfInBounds_toArray, List.set_cons_zero, List.set_cons_succ]) | ((refine' plan_load 0 rfl (by kernel_rfl) rfl ?_ ?_; rotate_left; (intro w1 hw1; go_simp; with_reducible rfl)); try simp only [Act.put, List.setIfInBounds_toArray, List.set_cons_zero, List.set_cons_succ]))
  refine plan_loudSkip rfl ⟨⟨fun i => cell_blk hw5.p1.at i, fun i => cell_blk hw5.at i⟩, trivial⟩ ?_
  try simp only [Act.put, List.setIfInBounds_toArray, List.set_cons_zero, List.set_cons_succ]
  refine plan_loudSkip rfl ⟨⟨fun i => cell_blk hw5.p1.at i, fun i => cell_blk hw5.at i⟩, trivial⟩ ?_
  try simp only [Act.put, List.setIfInBounds_toArray, List.set_cons_zero, List.set_cons_succ]
  iterate 4 (first | (apply plan_skip rfl; try simp only [Act.put, List.setIfInBounds_toArray, List.set_cons_zero, List.set_cons_succ]) | ((apply plan_pure rfl; (intro w1; go_simp; try go_bits); with_reducible rfl); try simp only [Act.put, List.setIfInBounds_toArray, List.set_cons_zero, List.set_cons_succ]) | ((refine' plan_load 0 rfl (by kernel_rfl) rfl ?_ ?_; rotate_left; (intro w1 hw1; go_simp; with_reducible rfl)); try simp only [Act.put, List.setIfInBounds_toArray, List.set_cons_zero, List.set_cons_succ]))
  refine plan_loud rfl (fun K hK => ?_); go_simp
  refine (known_ok _).mono ?_
  rintro e w' ⟨rfl, hbl⟩
  dsimp only
  have hz := hw5.ofBelow hbl
  refine hK _ _ ⟨⟨fun i => cell_blk hz.p1.at i, fun i => cell_blk hz.at i⟩, trivial⟩ ?_
  clear hK K
  try simp only [Act.put, List.setIfInBounds_toArray, List.set_cons_zero, List.set_cons_succ]
  iterate 2 (first | ((apply plan_pure rfl; (intro w1; go_simp; try go_bits); with_reducible rfl); try simp only [Act.put, List.setIfInBounds_toArray, List.set_cons_zero, List.set_cons_succ]) | ((refine' plan_load 0 rfl (by kernel_rfl) rfl ?_ ?_; rotate_left; (intro w1 hw1; go_simp; with_reducible rfl)); try simp only [Act.put, List.setIfInBounds_toArray, List.set_cons_zero, List.set_cons_succ]))
  refine plan_nil ?_
  go_wp2
  go_ret
  exact ⟨rfl, hz.p2.below⟩
set_option maxRecDepth 100000 in
set_option maxHeartbeats 1600000 in
theorem keys_E_gen (a0 a1 a2 a3 a4 a5 a8 a9 : Int) (b0 b1 b2 b3 b4 b5 b8 b9 : Int) (ia ga gb : Int) (hne : ¬ ga = gb) (l1 : ia ≤ 9223372036854775807) (l2 : ga ≤ 9223372036854775807) (l4 : gb ≤ 9223372036854775807) (hE : keyS ia ga = ByteArray.empty) (W : World) : Calls Tryz.prog 3 #[.agg (attrR a0 a1 a2 a3 a4 a5 ia ga a8 a9), .agg (attrR b0 b1 b2 b3 b4 b5 ia gb b8 b9)] W (TrueBelow W) := by
  have hE2 : (keyS ia ga).toList.isEmpty = true := isEmpty_of hE
  have hx0 : Sat W ((W.alloc (.cells (attrR a0 a1 a2 a3 a4 a5 ia ga a8 a9) 23)).alloc (.cells (attrR b0 b1 b2 b3 b4 b5 ia gb b8 b9) 23)) [pt (W.heap.size + 1) (.cells (attrR b0 b1 b2 b3 b4 b5 ia gb b8 b9) 23), pt W.heap.size (.cells (attrR a0 a1 a2 a3 a4 a5 ia ga a8 a9) 23), heapIs W] := by
    have h := ((Sat.start W).alloc (.cells (attrR a0 a1 a2 a3 a4 a5 ia ga a8 a9) 23)).alloc (.cells (attrR b0 b1 b2 b3 b4 b5 ia gb b8 b9) 23)
    simp only [World.size_alloc] at h
    exact h
  go_enter Tryz.func3, Tryz.ntmps3
  go_wp2
  refine wp_region_planL [(0, true), (2, true), (1, false), (3, false), (4, true), (5, true), (6, true), (8, true), (7, false), (9, false), (10, true), (11, true)]
    [(12, fun w1 => (∀ i, w1.cell? ⟨W.heap.size, i, none⟩ = ((attrR a0 a1 a2 a3 a4 a5 ia ga a8 a9))[i]?) ∧ (∀ i, w1.cell? ⟨W.heap.size + 1, i, none⟩ = ((attrR b0 b1 b2 b3 b4 b5 ia gb b8 b9))[i]?))] (by kernel_rfl) (by kernel_rfl) (by intro c a d v w h; cases d <;> exact h) ?_ ?_
  · exact ⟨⟨fun i => cell_blk hx0.drew.p1.at i, fun i => cell_blk hx0.drew.at i⟩, trivial⟩
  simp only [planOps, List.getElem?_cons_zero, List.getElem?_cons_succ]
  iterate 2 (first | ((apply plan_pure rfl; (intro w1; go_simp; try go_bits); with_reducible rfl); try simp only [Act.put, List.setIfInBounds_toArray, List.set_cons_zero, List.set_cons_succ]) | ((refine' plan_load 0 rfl (by kernel_rfl) rfl ?_ ?_; rotate_left; (intro w1 hw1; go_simp; with_reducible rfl)); try simp only [Act.put, List.setIfInBounds_toArray, List.set_cons_zero, List.set_cons_succ]))
  refine plan_loud rfl (fun K hK => ?_); go_simp
  refine (key_ok hx0.drew a0 a1 a2 a3 a4 a5 ia ga a8 a9 l1 l2).mono ?_
  rintro e w1 ⟨rfl, hw1⟩
  dsimp only
  refine hK _ _ ⟨⟨fun i => cell_blk hw1.p1.at i, fun i => cell_blk hw1.at i⟩, trivial⟩ ?_
  clear hK K
  try simp only [Act.put, List.setIfInBounds_toArray, List.set_cons_zero, List.set_cons_succ]
  refine plan_loud rfl (fun K hK => ?_); go_simp
  refine (refKey_ok hw1 a0 a1 a2 a3 a4 a5 ia ga a8 a9 l1 l2).mono ?_
  rintro e w2 ⟨rfl, hw2⟩
  dsimp only
  refine hK _ _ ⟨⟨fun i => cell_blk hw2.p1.at i, fun i => cell_blk hw2.at i⟩, trivial⟩ ?_
  clear hK K
  try simp only [Act.put, List.setIfInBounds_toArray, List.set_cons_zero, List.set_cons_succ]
  iterate 4 (first | ((apply plan_pure rfl; (intro w1; go_simp; try go_bits); with_reducible rfl); try simp only [Act.put, List.setIfInBounds_toArray, List.set_cons_zero, List.set_cons_succ]) | ((refine' plan_load 0 rfl (by kernel_rfl) rfl ?_ ?_; rotate_left; (intro w1 hw1; go_simp; with_reducible rfl)); try simp only [Act.put, List.setIfInBounds_toArray, List.set_cons_zero, List.set_cons_succ]))
  refine plan_loud rfl (fun K hK => ?_); go_simp
  refine (key_ok hw2 b0 b1 b2 b3 b4 b5 ia gb b8 b9 l1 l4).mono ?_
  rintro e w3 ⟨rfl, hw3⟩
  dsimp only
  refine hK _ _ ⟨⟨fun i => cell_blk hw3.p1.at i, fun i => cell_blk hw3.at i⟩, trivial⟩ ?_
  clear hK K
  try simp only [Act.put, List.setIfInBounds_toArray, List.set_cons_zero, List.set_cons_succ]
  refine plan_loud rfl (fun K hK => ?_); go_simp
  refine (refKey_ok hw3 b0 b1 b2 b3 b4 b5 ia gb b8 b9 l1 l4).mono ?_
  rintro e w4 ⟨rfl, hw4⟩
  dsimp only
  refine hK _ _ ⟨⟨fun i => cell_blk hw4.p1.at i, fun i => cell_blk hw4.at i⟩, trivial⟩ ?_
  clear hK K
  try simp only [Act.put, List.setIfInBounds_toArray, List.set_cons_zero, List.set_cons_succ]
  iterate 2 (first | ((apply plan_pure rfl; (intro w1; go_simp; try go_bits); with_reducible rfl); try simp only [Act.put, List.setIfInBounds_toArray, List.set_cons_zero, List.set_cons_succ]) | ((refine' plan_load 0 rfl (by kernel_rfl) rfl ?_ ?_; rotate_left; (intro w1 hw1; go_simp; with_reducible rfl)); try simp only [Act.put, List.setIfInBounds_toArray, List.set_cons_zero, List.set_cons_succ]))
  refine plan_nil ?_
  have c6 : w4.cell? ⟨W.heap.size, 6, none⟩ = some (.int .i64 ia) := cell_blk hw4.p1.at 6
  have c7 : w4.cell? ⟨W.heap.size, 7, none⟩ = some (.int .i64 ga) := cell_blk hw4.p1.at 7
  have d6 : w4.cell? ⟨W.heap.size + 1, 6, none⟩ = some (.int .i64 ia) := cell_blk hw4.at 6
  have d7 : w4.cell? ⟨W.heap.size + 1, 7, none⟩ = some (.int .i64 gb) := cell_blk hw4.at 7
  go_wp2
  refine wp_region_planL [(0, true), (1, false), (2, true), (3, true), (4, true), (6, true), (9, true), (5, false), (7, false), (8, true), (10, true), (11, true), (12, true), (13, false), (14, true), (15, true)]
    [(16, fun w1 => (∀ i, w1.cell? ⟨W.heap.size, i, none⟩ = ((attrR a0 a1 a2 a3 a4 a5 ia ga a8 a9))[i]?) ∧ (∀ i, w1.cell? ⟨W.heap.size + 1, i, none⟩ = ((attrR b0 b1 b2 b3 b4 b5 ia gb b8 b9))[i]?))] (by kernel_rfl) (by kernel_rfl) (by intro c a d v w h; cases d <;> exact h) ?_ ?_
  · exact ⟨⟨fun i => cell_blk hw4.drew.p1.at i, fun i => cell_blk hw4.drew.at i⟩, trivial⟩
  simp only [planOps, List.getElem?_cons_zero, List.getElem?_cons_succ]
  iterate 1 (first | ((apply plan_pure rfl; (intro w1; go_simp; try go_bits); with_reducible rfl); try simp only [Act.put, List.setIfInBounds_toArray, List.set_cons_zero, List.set_cons_succ]) | ((refine' plan_load 0 rfl (by kernel_rfl) rfl ?_ ?_; rotate_left; (intro w1 hw1; go_simp; with_reducible rfl)); try simp only [Act.put, List.setIfInBounds_toArray, List.set_cons_zero, List.set_cons_succ]))
  refine plan_loud rfl (fun K hK => ?_); go_simp
  refine (key_ok hw4.drew a0 a1 a2 a3 a4 a5 ia ga a8 a9 l1 l2).mono ?_
  rintro e w5 ⟨rfl, hw5⟩
  dsimp only
  refine hK _ _ ⟨⟨fun i => cell_blk hw5.p1.at i, fun i => cell_blk hw5.at i⟩, trivial⟩ ?_
  clear hK K
  try simp only [Act.put, List.setIfInBounds_toArray, List.set_cons_zero, List.set_cons_succ]
  iterate 5 (first | (apply plan_skip rfl; try simp only [Act.put, List.setIfInBounds_toArray, List.set_cons_zero, List.set_cons_succ]) | ((apply plan_pure rfl; (intro w1; go_simp; try go_bits); with_reducible rfl); try simp only [Act.put, List.setIfInBounds_toArray, List.set_cons_zero, List.set_cons_succ]) | ((refine' plan_load 0 rfl (by kernel_rfl) rfl ?_ ?_; rotate_left; (intro w1 hw1; go_simp; with_reducible rfl)); try simp only [Act.put, List.setIfInBounds_toArray, List.set_cons_zero, List.set_cons_succ]))
  refine plan_loudSkip rfl ⟨⟨fun i => cell_blk hw5.p1.at i, fun i => cell_blk hw5.at i⟩, trivial⟩ ?_
  try simp only [Act.put, List.setIfInBounds_toArray, List.set_cons_zero, List.set_cons_succ]
  refine plan_loudSkip rfl ⟨⟨fun i => cell_blk hw5.p1.at i, fun i => cell_blk hw5.at i⟩, trivial⟩ ?_
  try simp only [Act.put, List.setIfInBounds_toArray, List.set_cons_zero, List.set_cons_succ]
  iterate 4 (first | (apply plan_skip rfl; try simp only [Act.put, List.setIfInBounds_toArray, List.set_cons_zero, List.set_cons_succ]) | ((apply plan_pure rfl; (intro w1; go_simp; try go_bits); with_reducible rfl); try simp only [Act.put, List.setIfInBounds_toArray, List.set_cons_zero, List.set_cons_succ]) | ((refine' plan_load 0 rfl (by kernel_rfl) rfl ?_ ?_; rotate_left; (intro w1 hw1; go_simp; with_reducible rfl)); try simp only [Act.put, List.setIfInBounds_toArray, List.set_cons_zero, List.set_cons_succ]))
  refine plan_loud rfl (fun K hK => ?_); go_simp
  refine (known_ok _).mono ?_
  rintro e w' ⟨rfl, hbl⟩
  dsimp only
  have hz := hw5.ofBelow hbl
  refine hK _ _ ⟨⟨fun i => cell_blk hz.p1.at i, fun i => cell_blk hz.at i⟩, trivial⟩ ?_
  clear hK K
  try simp only [Act.put, List.setIfInBounds_toArray, List.set_cons_zero, List.set_cons_succ]
  iterate 2 (first | ((apply plan_pure rfl; (intro w1; go_simp; try go_bits); with_reducible rfl); try simp only [Act.put, List.setIfInBounds_toArray, List.set_cons_zero, List.set_cons_succ]) | ((refine' plan_load 0 rfl (by kernel_rfl) rfl ?_ ?_; rotate_left; (intro w1 hw1; go_simp; with_reducible rfl)); try simp only [Act.put, List.setIfInBounds_toArray, List.set_cons_zero, List.set_cons_succ]))
  refine plan_nil ?_
  go_wp2
  go_ret
  exact ⟨rfl, hz.p2.below⟩
set_option maxRecDepth 100000 in
set_option maxHeartbeats 1600000 in
theorem keys_N_eq (a0 a1 a2 a3 a4 a5 a8 a9 : Int) (b0 b1 b2 b3 b4 b5 b8 b9 : Int) (ia ga : Int) (l1 : ia ≤ 9223372036854775807) (l2 : ga ≤ 9223372036854775807) (hE : ¬ keyS ia ga = ByteArray.empty) (W : World) : Calls Tryz.prog 3 #[.agg (attrR a0 a1 a2 a3 a4 a5 ia ga a8 a9), .agg (attrR b0 b1 b2 b3 b4 b5 ia ga b8 b9)] W (TrueBelow W) := by
  have hE2 : (keyS ia ga).toList.isEmpty = false := isEmpty_not hE
  have hx0 : Sat W ((W.alloc (.cells (attrR a0 a1 a2 a3 a4 a5 ia ga a8 a9) 23)).alloc (.cells (attrR b0 b1 b2 b3 b4 b5 ia ga b8 b9) 23)) [pt (W.heap.size + 1) (.cells (attrR b0 b1 b2 b3 b4 b5 ia ga b8 b9) 23), pt W.heap.size (.cells (attrR a0 a1 a2 a3 a4 a5 ia ga a8 a9) 23), heapIs W] := by
    have h := ((Sat.start W).alloc (.cells (attrR a0 a1 a2 a3 a4 a5 ia ga a8 a9) 23)).alloc (.cells (attrR b0 b1 b2 b3 b4 b5 ia ga b8 b9) 23)
    simp only [World.size_alloc] at h
    exact h
  go_enter Tryz.func3, Tryz.ntmps3
  go_wp2
  refine wp_region_planL [(0, true), (2, true), (1, false), (3, false), (4, true), (5, true), (6, true), (8, true), (7, false), (9, false), (10, true), (11, true)]
    [(12, fun w1 => (∀ i, w1.cell? ⟨W.heap.size, i, none⟩ = ((attrR a0 a1 a2 a3 a4 a5 ia ga a8 a9))[i]?) ∧ (∀ i, w1.cell? ⟨W.heap.size + 1, i, none⟩ = ((attrR b0 b1 b2 b3 b4 b5 ia ga b8 b9))[i]?))] (by kernel_rfl) (by kernel_rfl) (by intro c a d v w h; cases d <;> exact h) ?_ ?_
  · exact ⟨⟨fun i => cell_blk hx0.drew.p1.at i, fun i => cell_blk hx0.drew.at i⟩, trivial⟩
  simp only [planOps, List.getElem?_cons_zero, List.getElem?_cons_succ]
  iterate 2 (first | ((apply plan_pure rfl; (intro w1; go_simp; try go_bits); with_reducible rfl); try simp only [Act.put, List.setIfInBounds_toArray, List.set_cons_zero, List.set_cons_succ]) | ((refine' plan_load 0 rfl (by kernel_rfl) rfl ?_ ?_; rotate_left; (intro w1 hw1; go_simp; with_reducible rfl)); try simp only [Act.put, List.setIfInBounds_toArray, List.set_cons_zero, List.set_cons_succ]))
  refine plan_loud rfl (fun K hK => ?_); go_simp
  refine (key_ok hx0.drew a0 a1 a2 a3 a4 a5 ia ga a8 a9 l1 l2).mono ?_
  rintro e w1 ⟨rfl, hw1⟩
  dsimp only
  refine hK _ _ ⟨⟨fun i => cell_blk hw1.p1.at i, fun i => cell_blk hw1.at i⟩, trivial⟩ ?_
  clear hK K
  try simp only [Act.put, List.setIfInBounds_toArray, List.set_cons_zero, List.set_cons_succ]
  refine plan_loud rfl (fun K hK => ?_); go_simp
  refine (refKey_ok hw1 a0 a1 a2 a3 a4 a5 ia ga a8 a9 l1 l2).mono ?_
  rintro e w2 ⟨rfl, hw2⟩
  dsimp only
  refine hK _ _ ⟨⟨fun i => cell_blk hw2.p1.at i, fun i => cell_blk hw2.at i⟩, trivial⟩ ?_
  clear hK K
  try simp only [Act.put, List.setIfInBounds_toArray, List.set_cons_zero, List.set_cons_succ]
  iterate 4 (first | ((apply plan_pure rfl; (intro w1; go_simp; try go_bits); with_reducible rfl); try simp only [Act.put, List.setIfInBounds_toArray, List.set_cons_zero, List.set_cons_succ]) | ((refine' plan_load 0 rfl (by kernel_rfl) rfl ?_ ?_; rotate_left; (intro w1 hw1; go_simp; with_reducible rfl)); try simp only [Act.put, List.setIfInBounds_toArray, List.set_cons_zero, List.set_cons_succ]))
  refine plan_loud rfl (fun K hK => ?_); go_simp
  refine (key_ok hw2 b0 b1 b2 b3 b4 b5 ia ga b8 b9 l1 l2).mono ?_
  rintro e w3 ⟨rfl, hw3⟩
  dsimp only
  refine hK _ _ ⟨⟨fun i => cell_blk hw3.p1.at i, fun i => cell_blk hw3.at i⟩, trivial⟩ ?_
  clear hK K
  try simp only [Act.put, List.setIfInBounds_toArray, List.set_cons_zero, List.set_cons_succ]
  refine plan_loud rfl (fun K hK => ?_); go_simp
  refine (refKey_ok hw3 b0 b1 b2 b3 b4 b5 ia ga b8 b9 l1 l2).mono ?_
  rintro e w4 ⟨rfl, hw4⟩
  dsimp only
  refine hK _ _ ⟨⟨fun i => cell_blk hw4.p1.at i, fun i => cell_blk hw4.at i⟩, trivial⟩ ?_
  clear hK K
  try simp only [Act.put, List.setIfInBounds_toArray, List.set_cons_zero, List.set_cons_succ]
  iterate 2 (first | ((apply plan_pure rfl; (intro w1; go_simp; try go_bits); with_reducible rfl); try simp only [Act.put, List.setIfInBounds_toArray, List.set_cons_zero, List.set_cons_succ]) | ((refine' plan_load 0 rfl (by kernel_rfl) rfl ?_ ?_; rotate_left; (intro w1 hw1; go_simp; with_reducible rfl)); try simp only [Act.put, List.setIfInBounds_toArray, List.set_cons_zero, List.set_cons_succ]))
  refine plan_nil ?_
  have c6 : w4.cell? ⟨W.heap.size, 6, none⟩ = some (.int .i64 ia) := cell_blk hw4.p1.at 6
  have c7 : w4.cell? ⟨W.heap.size, 7, none⟩ = some (.int .i64 ga) := cell_blk hw4.p1.at 7
  have d6 : w4.cell? ⟨W.heap.size + 1, 6, none⟩ = some (.int .i64 ia) := cell_blk hw4.at 6
  have d7 : w4.cell? ⟨W.heap.size + 1, 7, none⟩ = some (.int .i64 ga) := cell_blk hw4.at 7
  go_wp2
  refine wp_region_planL [(0, true), (1, false), (2, true), (3, true), (4, true), (6, true), (9, true), (5, false), (7, false), (8, true), (10, true), (11, true), (12, true), (13, false), (14, true), (15, true)]
    [(16, fun w1 => (∀ i, w1.cell? ⟨W.heap.size, i, none⟩ = ((attrR a0 a1 a2 a3 a4 a5 ia ga a8 a9))[i]?) ∧ (∀ i, w1.cell? ⟨W.heap.size + 1, i, none⟩ = ((attrR b0 b1 b2 b3 b4 b5 ia ga b8 b9))[i]?))] (by kernel_rfl) (by kernel_rfl) (by intro c a d v w h; cases d <;> exact h) ?_ ?_
  · exact ⟨⟨fun i => cell_blk hw4.drew.p1.at i, fun i => cell_blk hw4.drew.at i⟩, trivial⟩
  simp only [planOps, List.getElem?_cons_zero, List.getElem?_cons_succ]
  iterate 1 (first | ((apply plan_pure rfl; (intro w1; go_simp; try go_bits); with_reducible rfl); try simp only [Act.put, List.setIfInBounds_toArray, List.set_cons_zero, List.set_cons_succ]) | ((refine' plan_load 0 rfl (by kernel_rfl) rfl ?_ ?_; rotate_left; (intro w1 hw1; go_simp; with_reducible rfl)); try simp only [Act.put, List.setIfInBounds_toArray, List.set_cons_zero, List.set_cons_succ]))
  refine plan_loud rfl (fun K hK => ?_); go_simp
  refine (key_ok hw4.drew a0 a1 a2 a3 a4 a5 ia ga a8 a9 l1 l2).mono ?_
  rintro e w5 ⟨rfl, hw5⟩
  dsimp only
  refine hK _ _ ⟨⟨fun i => cell_blk hw5.p1.at i, fun i => cell_blk hw5.at i⟩, trivial⟩ ?_
  clear hK K
  try simp only [Act.put, List.setIfInBounds_toArray, List.set_cons_zero, List.set_cons_succ]
  iterate 5 (first | ((apply plan_pure rfl; (intro w1; go_simp; try go_bits); with_reducible rfl); try simp only [Act.put, List.setIfInBounds_toArray, List.set_cons_zero, List.set_cons_succ]) | ((refine' plan_load 0 rfl (by kernel_rfl) rfl ?_ ?_; rotate_left; (intro w1 hw1; go_simp; with_reducible rfl)); try simp only [Act.put, List.setIfInBounds_toArray, List.set_cons_zero, List.set_cons_succ]))
  refine plan_loud rfl (fun K hK => ?_); go_simp
  refine (key_ok hw5 a0 a1 a2 a3 a4 a5 ia ga a8 a9 l1 l2).mono ?_
  rintro e w6 ⟨rfl, hw6⟩
  dsimp only
  refine hK _ _ ⟨⟨fun i => cell_blk hw6.p1.at i, fun i => cell_blk hw6.at i⟩, trivial⟩ ?_
  clear hK K
  try simp only [Act.put, List.setIfInBounds_toArray, List.set_cons_zero, List.set_cons_succ]
  refine plan_loud rfl (fun K hK => ?_); go_simp
  refine (key_ok hw6 b0 b1 b2 b3 b4 b5 ia ga b8 b9 l1 l2).mono ?_
  rintro e w7 ⟨rfl, hw7⟩
  dsimp only
  refine hK _ _ ⟨⟨fun i => cell_blk hw7.p1.at i, fun i => cell_blk hw7.at i⟩, trivial⟩ ?_
  clear hK K
  try simp only [Act.put, List.setIfInBounds_toArray, List.set_cons_zero, List.set_cons_succ]
  iterate 4 (first | ((apply plan_pure rfl; (intro w1; go_simp; try go_bits); with_reducible rfl); try simp only [Act.put, List.setIfInBounds_toArray, List.set_cons_zero, List.set_cons_succ]) | ((refine' plan_load 0 rfl (by kernel_rfl) rfl ?_ ?_; rotate_left; (intro w1 hw1; go_simp; with_reducible rfl)); try simp only [Act.put, List.setIfInBounds_toArray, List.set_cons_zero, List.set_cons_succ]))
  refine plan_loud rfl (fun K hK => ?_); go_simp
  refine (known_ok _).mono ?_
  rintro e w' ⟨rfl, hbl⟩
  dsimp only
  have hz := hw7.ofBelow hbl
  refine hK _ _ ⟨⟨fun i => cell_blk hz.p1.at i, fun i => cell_blk hz.at i⟩, trivial⟩ ?_
  clear hK K
  try simp only [Act.put, List.setIfInBounds_toArray, List.set_cons_zero, List.set_cons_succ]
  iterate 2 (first | ((apply plan_pure rfl; (intro w1; go_simp; try go_bits); with_reducible rfl); try simp only [Act.put, List.setIfInBounds_toArray, List.set_cons_zero, List.set_cons_succ]) | ((refine' plan_load 0 rfl (by kernel_rfl) rfl ?_ ?_; rotate_left; (intro w1 hw1; go_simp; with_reducible rfl)); try simp only [Act.put, List.setIfInBounds_toArray, List.set_cons_zero, List.set_cons_succ]))
  refine plan_nil ?_
  go_wp2
  go_ret
  exact ⟨rfl, hz.p2.below⟩
set_option maxRecDepth 100000 in
set_option maxHeartbeats 1600000 in
theorem keys_N_id (a0 a1 a2 a3 a4 a5 a8 a9 : Int) (b0 b1 b2 b3 b4 b5 b8 b9 : Int) (ia ga ib gb : Int) (hne : ¬ ia = ib) (l1 : ia ≤ 9223372036854775807) (l2 : ga ≤ 9223372036854775807) (l3 : ib ≤ 9223372036854775807) (l4 : gb ≤ 9223372036854775807) (hE : ¬ keyS ia ga = ByteArray.empty) (W : World) : Calls Tryz.prog 3 #[.agg (attrR a0 a1 a2 a3 a4 a5 ia ga a8 a9), .agg (attrR b0 b1 b2 b3 b4 b5 ib gb b8 b9)] W (TrueBelow W) := by
  have hE2 : (keyS ia ga).toList.isEmpty = false := isEmpty_not hE
  have hx0 : Sat W ((W.alloc (.cells (attrR a0 a1 a2 a3 a4 a5 ia ga a8 a9) 23)).alloc (.cells (attrR b0 b1 b2 b3 b4 b5 ib gb b8 b9) 23)) [pt (W.heap.size + 1) (.cells (attrR b0 b1 b2 b3 b4 b5 ib gb b8 b9) 23), pt W.heap.size (.cells (attrR a0 a1 a2 a3 a4 a5 ia ga a8 a9) 23), heapIs W] := by
    have h := ((Sat.start W).alloc (.cells (attrR a0 a1 a2 a3 a4 a5 ia ga a8 a9) 23)).alloc (.cells (attrR b0 b1 b2 b3 b4 b5 ib gb b8 b9) 23)
    simp only [World.size_alloc] at h
    exact h
  have hkk : ¬ keyS ia ga = keyS ib gb := fun e => hne ((keyS_inj hE l2 l4).1 e).1
  have hkb : ((keyS ia ga).toList == (keyS ib gb).toList) = false := toList_ne hkk
  have hnb : (ia == ib) = false := by simpa using hne
  go_enter Tryz.func3, Tryz.ntmps3
  go_wp2
  refine wp_region_planL [(0, true), (2, true), (1, false), (3, false), (4, true), (5, true), (6, true), (8, true), (7, false), (9, false), (10, true), (11, true)]
    [(12, fun w1 => (∀ i, w1.cell? ⟨W.heap.size, i, none⟩ = ((attrR a0 a1 a2 a3 a4 a5 ia ga a8 a9))[i]?) ∧ (∀ i, w1.cell? ⟨W.heap.size + 1, i, none⟩ = ((attrR b0 b1 b2 b3 b4 b5 ib gb b8 b9))[i]?))] (by kernel_rfl) (by kernel_rfl) (by intro c a d v w h; cases d <;> exact h) ?_ ?_
  · exact ⟨⟨fun i => cell_blk hx0.drew.p1.at i, fun i => cell_blk hx0.drew.at i⟩, trivial⟩
  simp only [planOps, List.getElem?_cons_zero, List.getElem?_cons_succ]
  iterate 2 (first | ((apply plan_pure rfl; (intro w1; go_simp; try go_bits); with_reducible rfl); try simp only [Act.put, List.setIfInBounds_toArray, List.set_cons_zero, List.set_cons_succ]) | ((refine' plan_load 0 rfl (by kernel_rfl) rfl ?_ ?_; rotate_left; (intro w1 hw1; go_simp; with_reducible rfl)); try simp only [Act.put, List.setIfInBounds_toArray, List.set_cons_zero, List.set_cons_succ]))
  refine plan_loud rfl (fun K hK => ?_); go_simp
  refine (key_ok hx0.drew a0 a1 a2 a3 a4 a5 ia ga a8 a9 l1 l2).mono ?_
  rintro e w1 ⟨rfl, hw1⟩
  dsimp only
  refine hK _ _ ⟨⟨fun i => cell_blk hw1.p1.at i, fun i => cell_blk hw1.at i⟩, trivial⟩ ?_
  clear hK K
  try simp only [Act.put, List.setIfInBounds_toArray, List.set_cons_zero, List.set_cons_succ]
  refine plan_loud rfl (fun K hK => ?_); go_simp
  refine (refKey_ok hw1 a0 a1 a2 a3 a4 a5 ia ga a8 a9 l1 l2).mono ?_
  rintro e w2 ⟨rfl, hw2⟩
  dsimp only
  refine hK _ _ ⟨⟨fun i => cell_blk hw2.p1.at i, fun i => cell_blk hw2.at i⟩, trivial⟩ ?_
  clear hK K
  try simp only [Act.put, List.setIfInBounds_toArray, List.set_cons_zero, List.set_cons_succ]
  iterate 4 (first | ((apply plan_pure rfl; (intro w1; go_simp; try go_bits); with_reducible rfl); try simp only [Act.put, List.setIfInBounds_toArray, List.set_cons_zero, List.set_cons_succ]) | ((refine' plan_load 0 rfl (by kernel_rfl) rfl ?_ ?_; rotate_left; (intro w1 hw1; go_simp; with_reducible rfl)); try simp only [Act.put, List.setIfInBounds_toArray, List.set_cons_zero, List.set_cons_succ]))
  refine plan_loud rfl (fun K hK => ?_); go_simp
  refine (key_ok hw2 b0 b1 b2 b3 b4 b5 ib gb b8 b9 l3 l4).mono ?_
  rintro e w3 ⟨rfl, hw3⟩
  dsimp only
  refine hK _ _ ⟨⟨fun i => cell_blk hw3.p1.at i, fun i => cell_blk hw3.at i⟩, trivial⟩ ?_
  clear hK K
  try simp only [Act.put, List.setIfInBounds_toArray, List.set_cons_zero, List.set_cons_succ]
  refine plan_loud rfl (fun K hK => ?_); go_simp
  refine (refKey_ok hw3 b0 b1 b2 b3 b4 b5 ib gb b8 b9 l3 l4).mono ?_
  rintro e w4 ⟨rfl, hw4⟩
  dsimp only
  refine hK _ _ ⟨⟨fun i => cell_blk hw4.p1.at i, fun i => cell_blk hw4.at i⟩, trivial⟩ ?_
  clear hK K
  try simp only [Act.put, List.setIfInBounds_toArray, List.set_cons_zero, List.set_cons_succ]
  iterate 2 (first | ((apply plan_pure rfl; (intro w1; go_simp; try go_bits); with_reducible rfl); try simp only [Act.put, List.setIfInBounds_toArray, List.set_cons_zero, List.set_cons_succ]) | ((refine' plan_load 0 rfl (by kernel_rfl) rfl ?_ ?_; rotate_left; (intro w1 hw1; go_simp; with_reducible rfl)); try simp only [Act.put, List.setIfInBounds_toArray, List.set_cons_zero, List.set_cons_succ]))
  refine plan_nil ?_
  have c6 : w4.cell? ⟨W.heap.size, 6, none⟩ = some (.int .i64 ia) := cell_blk hw4.p1.at 6
  have c7 : w4.cell? ⟨W.heap.size, 7, none⟩ = some (.int .i64 ga) := cell_blk hw4.p1.at 7
  have d6 : w4.cell? ⟨W.heap.size + 1, 6, none⟩ = some (.int .i64 ib) := cell_blk hw4.at 6
  have d7 : w4.cell? ⟨W.heap.size + 1, 7, none⟩ = some (.int .i64 gb) := cell_blk hw4.at 7
  go_wp2
  refine wp_region_planL [(0, true), (1, false), (2, true), (3, true), (4, true), (6, true), (9, true), (5, false), (7, false), (8, true), (10, true), (11, true), (12, true), (13, false), (14, true), (15, true)]
    [(16, fun w1 => (∀ i, w1.cell? ⟨W.heap.size, i, none⟩ = ((attrR a0 a1 a2 a3 a4 a5 ia ga a8 a9))[i]?) ∧ (∀ i, w1.cell? ⟨W.heap.size + 1, i, none⟩ = ((attrR b0 b1 b2 b3 b4 b5 ib gb b8 b9))[i]?))] (by kernel_rfl) (by kernel_rfl) (by intro c a d v w h; cases d <;> exact h) ?_ ?_
  · exact ⟨⟨fun i => cell_blk hw4.drew.p1.at i, fun i => cell_blk hw4.drew.at i⟩, trivial⟩
  simp only [planOps, List.getElem?_cons_zero, List.getElem?_cons_succ]
  iterate 1 (first | ((apply plan_pure rfl; (intro w1; go_simp; try go_bits); with_reducible rfl); try simp only [Act.put, List.setIfInBounds_toArray, List.set_cons_zero, List.set_cons_succ]) | ((refine' plan_load 0 rfl (by kernel_rfl) rfl ?_ ?_; rotate_left; (intro w1 hw1; go_simp; with_reducible rfl)); try simp only [Act.put, List.setIfInBounds_toArray, List.set_cons_zero, List.set_cons_succ]))
  refine plan_loud rfl (fun K hK => ?_); go_simp
  refine (key_ok hw4.drew a0 a1 a2 a3 a4 a5 ia ga a8 a9 l1 l2).mono ?_
  rintro e w5 ⟨rfl, hw5⟩
  dsimp only
  refine hK _ _ ⟨⟨fun i => cell_blk hw5.p1.at i, fun i => cell_blk hw5.at i⟩, trivial⟩ ?_
  clear hK K
  try simp only [Act.put, List.setIfInBounds_toArray, List.set_cons_zero, List.set_cons_succ]
  iterate 5 (first | ((apply plan_pure rfl; (intro w1; go_simp; try go_bits); with_reducible rfl); try simp only [Act.put, List.setIfInBounds_toArray, List.set_cons_zero, List.set_cons_succ]) | ((refine' plan_load 0 rfl (by kernel_rfl) rfl ?_ ?_; rotate_left; (intro w1 hw1; go_simp; with_reducible rfl)); try simp only [Act.put, List.setIfInBounds_toArray, List.set_cons_zero, List.set_cons_succ]))
  refine plan_loud rfl (fun K hK => ?_); go_simp
  refine (key_ok hw5 a0 a1 a2 a3 a4 a5 ia ga a8 a9 l1 l2).mono ?_
  rintro e w6 ⟨rfl, hw6⟩
  dsimp only
  refine hK _ _ ⟨⟨fun i => cell_blk hw6.p1.at i, fun i => cell_blk hw6.at i⟩, trivial⟩ ?_
  clear hK K
  try simp only [Act.put, List.setIfInBounds_toArray, List.set_cons_zero, List.set_cons_succ]
  refine plan_loud rfl (fun K hK => ?_); go_simp
  refine (key_ok hw6 b0 b1 b2 b3 b4 b5 ib gb b8 b9 l3 l4).mono ?_
  rintro e w7 ⟨rfl, hw7⟩
  dsimp only
  refine hK _ _ ⟨⟨fun i => cell_blk hw7.p1.at i, fun i => cell_blk hw7.at i⟩, trivial⟩ ?_
  clear hK K
  try simp only [Act.put, List.setIfInBounds_toArray, List.set_cons_zero, List.set_cons_succ]
  iterate 4 (first | ((apply plan_pure rfl; (intro w1; go_simp; try go_bits); with_reducible rfl); try simp only [Act.put, List.setIfInBounds_toArray, List.set_cons_zero, List.set_cons_succ]) | ((refine' plan_load 0 rfl (by kernel_rfl) rfl ?_ ?_; rotate_left; (intro w1 hw1; go_simp; with_reducible rfl)); try simp only [Act.put, List.setIfInBounds_toArray, List.set_cons_zero, List.set_cons_succ]))
  refine plan_loud rfl (fun K hK => ?_); go_simp
  refine (known_ok _).mono ?_
  rintro e w' ⟨rfl, hbl⟩
  dsimp only
  have hz := hw7.ofBelow hbl
  refine hK _ _ ⟨⟨fun i => cell_blk hz.p1.at i, fun i => cell_blk hz.at i⟩, trivial⟩ ?_
  clear hK K
  try simp only [Act.put, List.setIfInBounds_toArray, List.set_cons_zero, List.set_cons_succ]
  iterate 2 (first | ((apply plan_pure rfl; (intro w1; go_simp; try go_bits); with_reducible rfl); try simp only [Act.put, List.setIfInBounds_toArray, List.set_cons_zero, List.set_cons_succ]) | ((refine' plan_load 0 rfl (by kernel_rfl) rfl ?_ ?_; rotate_left; (intro w1 hw1; go_simp; with_reducible rfl)); try simp only [Act.put, List.setIfInBounds_toArray, List.set_cons_zero, List.set_cons_succ]))
  refine plan_nil ?_
  go_wp2
  go_ret
  exact ⟨rfl, hz.p2.below⟩
set_option maxRecDepth 100000 in
set_option maxHeartbeats 1600000 in
theorem keys_N_gen (a0 a1 a2 a3 a4 a5 a8 a9 : Int) (b0 b1 b2 b3 b4 b5 b8 b9 : Int) (ia ga gb : Int) (hne : ¬ ga = gb) (l1 : ia ≤ 9223372036854775807) (l2 : ga ≤ 9223372036854775807) (l4 : gb ≤ 9223372036854775807) (hE : ¬ keyS ia ga = ByteArray.empty) (W : World) : Calls Tryz.prog 3 #[.agg (attrR a0 a1 a2 a3 a4 a5 ia ga a8 a9), .agg (attrR b0 b1 b2 b3 b4 b5 ia gb b8 b9)] W (TrueBelow W) := by
  have hE2 : (keyS ia ga).toList.isEmpty = false := isEmpty_not hE
  have hx0 : Sat W ((W.alloc (.cells (attrR a0 a1 a2 a3 a4 a5 ia ga a8 a9) 23)).alloc (.cells (attrR b0 b1 b2 b3 b4 b5 ia gb b8 b9) 23)) [pt (W.heap.size + 1) (.cells (attrR b0 b1 b2 b3 b4 b5 ia gb b8 b9) 23), pt W.heap.size (.cells (attrR a0 a1 a2 a3 a4 a5 ia ga a8 a9) 23), heapIs W] := by
    have h := ((Sat.start W).alloc (.cells (attrR a0 a1 a2 a3 a4 a5 ia ga a8 a9) 23)).alloc (.cells (attrR b0 b1 b2 b3 b4 b5 ia gb b8 b9) 23)
    simp only [World.size_alloc] at h
    exact h
  have hkk : ¬ keyS ia ga = keyS ia gb := fun e => hne ((keyS_inj hE l2 l4).1 e).2
  have hkb : ((keyS ia ga).toList == (keyS ia gb).toList) = false := toList_ne hkk
  have hnb : (ga == gb) = false := by simpa using hne
  go_enter Tryz.func3, Tryz.ntmps3
  go_wp2
  refine wp_region_planL [(0, true), (2, true), (1, false), (3, false), (4, true), (5, true), (6, true), (8, true), (7, false), (9, false), (10, true), (11, true)]
    [(12, fun w1 => (∀ i, w1.cell? ⟨W.heap.size, i, none⟩ = ((attrR a0 a1 a2 a3 a4 a5 ia ga a8 a9))[i]?) ∧ (∀ i, w1.cell? ⟨W.heap.size + 1, i, none⟩ = ((attrR b0 b1 b2 b3 b4 b5 ia gb b8 b9))[i]?))] (by kernel_rfl) (by kernel_rfl) (by intro c a d v w h; cases d <;> exact h) ?_ ?_
  · exact ⟨⟨fun i => cell_blk hx0.drew.p1.at i, fun i => cell_blk hx0.drew.at i⟩, trivial⟩
  simp only [planOps, List.getElem?_cons_zero, List.getElem?_cons_succ]
  iterate 2 (first | ((apply plan_pure rfl; (intro w1; go_simp; try go_bits); with_reducible rfl); try simp only [Act.put, List.setIfInBounds_toArray, List.set_cons_zero, List.set_cons_succ]) | ((refine' plan_load 0 rfl (by kernel_rfl) rfl ?_ ?_; rotate_left; (intro w1 hw1; go_simp; with_reducible rfl)); try simp only [Act.put, List.setIfInBounds_toArray, List.set_cons_zero, List.set_cons_succ]))
  refine plan_loud rfl (fun K hK => ?_); go_simp
  refine (key_ok hx0.drew a0 a1 a2 a3 a4 a5 ia ga a8 a9 l1 l2).mono ?_
  rintro e w1 ⟨rfl, hw1⟩
  dsimp only
  refine hK _ _ ⟨⟨fun i => cell_blk hw1.p1.at i, fun i => cell_blk hw1.at i⟩, trivial⟩ ?_
  clear hK K
  try simp only [Act.put, List.setIfInBounds_toArray, List.set_cons_zero, List.set_cons_succ]
  refine plan_loud rfl (fun K hK => ?_); go_simp
  refine (refKey_ok hw1 a0 a1 a2 a3 a4 a5 ia ga a8 a9 l1 l2).mono ?_
  rintro e w2 ⟨rfl, hw2⟩
  dsimp only
  refine hK _ _ ⟨⟨fun i => cell_blk hw2.p1.at i, fun i => cell_blk hw2.at i⟩, trivial⟩ ?_
  clear hK K
  try simp only [Act.put, List.setIfInBounds_toArray, List.set_cons_zero, List.set_cons_succ]
  iterate 4 (first | ((apply plan_pure rfl; (intro w1; go_simp; try go_bits); with_reducible rfl); try simp only [Act.put, List.setIfInBounds_toArray, List.set_cons_zero, List.set_cons_succ]) | ((refine' plan_load 0 rfl (by kernel_rfl) rfl ?_ ?_; rotate_left; (intro w1 hw1; go_simp; with_reducible rfl)); try simp only [Act.put, List.setIfInBounds_toArray, List.set_cons_zero, List.set_cons_succ]))
  refine plan_loud rfl (fun K hK => ?_); go_simp
  refine (key_ok hw2 b0 b1 b2 b3 b4 b5 ia gb b8 b9 l1 l4).mono ?_
  rintro e w3 ⟨rfl, hw3⟩
  dsimp only
  refine hK _ _ ⟨⟨fun i => cell_blk hw3.p1.at i, fun i => cell_blk hw3.at i⟩, trivial⟩ ?_
  clear hK K
  try simp only [Act.put, List.setIfInBounds_toArray, List.set_cons_zero, List.set_cons_succ]
  refine plan_loud rfl (fun K hK => ?_); go_simp
  refine (refKey_ok hw3 b0 b1 b2 b3 b4 b5 ia gb b8 b9 l1 l4).mono ?_
  rintro e w4 ⟨rfl, hw4⟩
  dsimp only
  refine hK _ _ ⟨⟨fun i => cell_blk hw4.p1.at i, fun i => cell_blk hw4.at i⟩, trivial⟩ ?_
  clear hK K
  try simp only [Act.put, List.setIfInBounds_toArray, List.set_cons_zero, List.set_cons_succ]
  iterate 2 (first | ((apply plan_pure rfl; (intro w1; go_simp; try go_bits); with_reducible rfl); try simp only [Act.put, List.setIfInBounds_toArray, List.set_cons_zero, List.set_cons_succ]) | ((refine' plan_load 0 rfl (by kernel_rfl) rfl ?_ ?_; rotate_left; (intro w1 hw1; go_simp; with_reducible rfl)); try simp only [Act.put, List.setIfInBounds_toArray, List.set_cons_zero, List.set_cons_succ]))
  refine plan_nil ?_
  have c6 : w4.cell? ⟨W.heap.size, 6, none⟩ = some (.int .i64 ia) := cell_blk hw4.p1.at 6
  have c7 : w4.cell? ⟨W.heap.size, 7, none⟩ = some (.int .i64 ga) := cell_blk hw4.p1.at 7
  have d6 : w4.cell? ⟨W.heap.size + 1, 6, none⟩ = some (.int .i64 ia) := cell_blk hw4.at 6
  have d7 : w4.cell? ⟨W.heap.size + 1, 7, none⟩ = some (.int .i64 gb) := cell_blk hw4.at 7
  go_wp2
  refine wp_region_planL [(0, true), (1, false), (2, true), (3, true), (4, true), (6, true), (9, true), (5, false), (7, false), (8, true), (10, true), (11, true), (12, true), (13, false), (14, true), (15, true)]
    [(16, fun w1 => (∀ i, w1.cell? ⟨W.heap.size, i, none⟩ = ((attrR a0 a1 a2 a3 a4 a5 ia ga a8 a9))[i]?) ∧ (∀ i, w1.cell? ⟨W.heap.size + 1, i, none⟩ = ((attrR b0 b1 b2 b3 b4 b5 ia gb b8 b9))[i]?))] (by kernel_rfl) (by kernel_rfl) (by intro c a d v w h; cases d <;> exact h) ?_ ?_
  · exact ⟨⟨fun i => cell_blk hw4.drew.p1.at i, fun i => cell_blk hw4.drew.at i⟩, trivial⟩
  simp only [planOps, List.getElem?_cons_zero, List.getElem?_cons_succ]
  iterate 1 (first | ((apply plan_pure rfl; (intro w1; go_simp; try go_bits); with_reducible rfl); try simp only [Act.put, List.setIfInBounds_toArray, List.set_cons_zero, List.set_cons_succ]) | ((refine' plan_load 0 rfl (by kernel_rfl) rfl ?_ ?_; rotate_left; (intro w1 hw1; go_simp; with_reducible rfl)); try simp only [Act.put, List.setIfInBounds_toArray, List.set_cons_zero, List.set_cons_succ]))
  refine plan_loud rfl (fun K hK => ?_); go_simp
  refine (key_ok hw4.drew a0 a1 a2 a3 a4 a5 ia ga a8 a9 l1 l2).mono ?_
  rintro e w5 ⟨rfl, hw5⟩
  dsimp only
  refine hK _ _ ⟨⟨fun i => cell_blk hw5.p1.at i, fun i => cell_blk hw5.at i⟩, trivial⟩ ?_
  clear hK K
  try simp only [Act.put, List.setIfInBounds_toArray, List.set_cons_zero, List.set_cons_succ]
  iterate 5 (first | ((apply plan_pure rfl; (intro w1; go_simp; try go_bits); with_reducible rfl); try simp only [Act.put, List.setIfInBounds_toArray, List.set_cons_zero, List.set_cons_succ]) | ((refine' plan_load 0 rfl (by kernel_rfl) rfl ?_ ?_; rotate_left; (intro w1 hw1; go_simp; with_reducible rfl)); try simp only [Act.put, List.setIfInBounds_toArray, List.set_cons_zero, List.set_cons_succ]))
  refine plan_loud rfl (fun K hK => ?_); go_simp
  refine (key_ok hw5 a0 a1 a2 a3 a4 a5 ia ga a8 a9 l1 l2).mono ?_
  rintro e w6 ⟨rfl, hw6⟩
  dsimp only
  refine hK _ _ ⟨⟨fun i => cell_blk hw6.p1.at i, fun i => cell_blk hw6.at i⟩, trivial⟩ ?_
  clear hK K
  try simp only [Act.put, List.setIfInBounds_toArray, List.set_cons_zero, List.set_cons_succ]
  refine plan_loud rfl (fun K hK => ?_); go_simp
  refine (key_ok hw6 b0 b1 b2 b3 b4 b5 ia gb b8 b9 l1 l4).mono ?_
  rintro e w7 ⟨rfl, hw7⟩
  dsimp only
  refine hK _ _ ⟨⟨fun i => cell_blk hw7.p1.at i, fun i => cell_blk hw7.at i⟩, trivial⟩ ?_
  clear hK K
  try simp only [Act.put, List.setIfInBounds_toArray, List.set_cons_zero, List.set_cons_succ]
  iterate 4 (first | ((apply plan_pure rfl; (intro w1; go_simp; try go_bits); with_reducible rfl); try simp only [Act.put, List.setIfInBounds_toArray, List.set_cons_zero, List.set_cons_succ]) | ((refine' plan_load 0 rfl (by kernel_rfl) rfl ?_ ?_; rotate_left; (intro w1 hw1; go_simp; with_reducible rfl)); try simp only [Act.put, List.setIfInBounds_toArray, List.set_cons_zero, List.set_cons_succ]))
  refine plan_loud rfl (fun K hK => ?_); go_simp
  refine (known_ok _).mono ?_
  rintro e w' ⟨rfl, hbl⟩
  dsimp only
  have hz := hw7.ofBelow hbl
  refine hK _ _ ⟨⟨fun i => cell_blk hz.p1.at i, fun i => cell_blk hz.at i⟩, trivial⟩ ?_
  clear hK K
  try simp only [Act.put, List.setIfInBounds_toArray, List.set_cons_zero, List.set_cons_succ]
  iterate 2 (first | ((apply plan_pure rfl; (intro w1; go_simp; try go_bits); with_reducible rfl); try simp only [Act.put, List.setIfInBounds_toArray, List.set_cons_zero, List.set_cons_succ]) | ((refine' plan_load 0 rfl (by kernel_rfl) rfl ?_ ?_; rotate_left; (intro w1 hw1; go_simp; with_reducible rfl)); try simp only [Act.put, List.setIfInBounds_toArray, List.set_cons_zero, List.set_cons_succ]))
  refine plan_nil ?_
  go_wp2
  go_ret
  exact ⟨rfl, hz.p2.below⟩
theorem shelfKeys_ok (a0 a1 a2 a3 a4 a5 ia ga a8 a9 b0 b1 b2 b3 b4 b5 ib gb b8 b9 : Int) (l1 : ia ≤ 9223372036854775807) (l2 : ga ≤ 9223372036854775807) (l3 : ib ≤ 9223372036854775807) (l4 : gb ≤ 9223372036854775807) (W : World) :
    Calls Tryz.prog 3 #[.agg (attrR a0 a1 a2 a3 a4 a5 ia ga a8 a9), .agg (attrR b0 b1 b2 b3 b4 b5 ib gb b8 b9)] W (TrueBelow W) := by
  by_cases hE : keyS ia ga = ByteArray.empty
  · by_cases h1 : ia = ib
    · subst h1
      by_cases h2 : ga = gb
      · subst h2
        exact keys_E_eq a0 a1 a2 a3 a4 a5 a8 a9 b0 b1 b2 b3 b4 b5 b8 b9 ia ga l1 l2 hE W
      · exact keys_E_gen a0 a1 a2 a3 a4 a5 a8 a9 b0 b1 b2 b3 b4 b5 b8 b9 ia ga gb h2 l1 l2 l4 hE W
    · exact keys_E_id a0 a1 a2 a3 a4 a5 a8 a9 b0 b1 b2 b3 b4 b5 b8 b9 ia ga ib gb h1 l1 l2 l3 l4 hE W
  · by_cases h1 : ia = ib
    · subst h1
      by_cases h2 : ga = gb
      · subst h2
        exact keys_N_eq a0 a1 a2 a3 a4 a5 a8 a9 b0 b1 b2 b3 b4 b5 b8 b9 ia ga l1 l2 hE W
      · exact keys_N_gen a0 a1 a2 a3 a4 a5 a8 a9 b0 b1 b2 b3 b4 b5 b8 b9 ia ga gb h2 l1 l2 l4 hE W
    · exact keys_N_id a0 a1 a2 a3 a4 a5 a8 a9 b0 b1 b2 b3 b4 b5 b8 b9 ia ga ib gb h1 l1 l2 l3 l4 hE W
end Go.Proofs.YtjmfclhilmmamaaGreatDoor
