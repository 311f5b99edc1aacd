/-
  The document's handles of kind 2; the root, and the handle that nobody issues.
-/
import Derived.Test.YtodjdcdbmbmbmaaGreatDoorFhR
import Derived.Test.YtodjdcdbmbmbmaaGreatDoorParseR
namespace Go.Proofs.YtodjdcdbmbmbmaaGreatDoor
open Go.RowKit PH

theorem hL_text2 (A B : Nat) : bs [2] ++ ByteArray.mk #[0, 0, 0] ++ bs (numL A 4) ++ bs (numL B 8) = bs (hL 2 A B) := by
  have e : ByteArray.mk #[0, 0, 0] = bs [0, 0, 0] := rfl
  rw [e, ← bs_append, ← bs_append, ← bs_append]
  rfl
set_option maxRecDepth 100000 in
set_option maxHeartbeats 1600000 in
theorem refMake2_ok {E W : World} {L : List HP} (x : Sat E W L) (A B : Nat) (hA : A ≤ 9223372036854775807) (hB : B ≤ 9223372036854775807) :
    Calls Tryz.prog 12 #[.int .i64 2, .int .i64 A, .int .i64 B] W fun e w' => e = .returned (.string (bs (hL 2 A B))) ∧ Sat E w' L := by
  have HX := Lib.hid x
  have hH := hL_text2 A B
  have hs1 : (bs [2]).size = 1 := bs_size _
  have hs4 : (bs (numL A 4)).size = 4 := by rw [bs_size, numL_len]
  have hs8 : (bs (numL B 8)).size = 8 := by rw [bs_size, numL_len]
  clear x
  go_enter Tryz.func12, Tryz.ntmps12
  go_wp2
  refine wp_region_fork2 [(0, true), (1, true), (5, true), (8, true)] 2 6 [(3, true), (4, true), (6, false), (7, true), (9, false), (10, true), (11, true)] [] 2 9 [(3, true), (4, true), (7, true), (9, false), (10, true), (11, true)] [(2, false), (3, false), (4, true), (7, true), (10, true), (11, true)]
    (fun _ => True) (by kernel_rfl) (by kernel_rfl) (by intro c a d v w h; cases d <;> exact h) ?_ ?_
  · trivial
  simp only [planOps, List.getElem?_cons_zero, List.getElem?_cons_succ]
  iterate 4 (first | ((apply plan_pure rfl; (intro w1; go_simp; try go_bits); with_reducible rfl); try simp only [Act.put, List.setIfInBounds_toArray, List.set_cons_zero, List.set_cons_succ]) | ((refine' plan_load 0 rfl (by kernel_rfl) rfl ?_ ?_; rotate_left; (intro w1 hw1; go_simp; with_reducible rfl)); try simp only [Act.put, List.setIfInBounds_toArray, List.set_cons_zero, List.set_cons_succ]))
  refine plan_nil ⟨?_, ?_⟩
  · refine branch_loud1 rfl rfl (fun K hK => ?_); go_simp
    have hxA := (HX.out.alloc (.cells #[.int .u8 2] 5)).drew
    refine hK _ _ (fun w1 => w1.cell? ⟨W.heap.size, 0, none⟩ = some (.int .u8 2)) (by go_simp) (fun _ _ => trivial) ?_
    clear hK K
    simp only [planOps, List.getElem?_cons_zero, List.getElem?_cons_succ]
    try simp only [Act.put, List.setIfInBounds_toArray, List.set_cons_zero, List.set_cons_succ]
    refine plan_load (v := .string (bs [2])) 0 rfl (by kernel_rfl) rfl (fun w1 hw1 => ?_) ?_
    · have hcv := conv1 (B := 2) hw1
      go_simp
    try simp only [Act.put, List.setIfInBounds_toArray, List.set_cons_zero, List.set_cons_succ]
    iterate 1 (first | ((apply plan_pure rfl; (intro w1; go_simp; try go_bits); with_reducible rfl); try simp only [Act.put, List.setIfInBounds_toArray, List.set_cons_zero, List.set_cons_succ]) | ((refine' plan_load 0 rfl (by kernel_rfl) rfl ?_ ?_; rotate_left; (intro w1 hw1; go_simp; with_reducible rfl)); try simp only [Act.put, List.setIfInBounds_toArray, List.set_cons_zero, List.set_cons_succ]))
    refine plan_loud rfl (fun K hK => ?_); go_simp
    refine (refNum_ok hxA A 4 hA (by omega)).mono ?_
    rintro e w2 ⟨rfl, hw2⟩
    dsimp only
    refine hK _ _ ⟨cell_blk hw2.at 0, trivial⟩ ?_
    clear hK K
    try simp only [Act.put, List.setIfInBounds_toArray, List.set_cons_zero, List.set_cons_succ]
    iterate 1 (first | ((apply plan_pure rfl; (intro w1; go_simp; try go_bits); with_reducible rfl); try simp only [Act.put, List.setIfInBounds_toArray, List.set_cons_zero, List.set_cons_succ]) | ((refine' plan_load 0 rfl (by kernel_rfl) rfl ?_ ?_; rotate_left; (intro w1 hw1; go_simp; with_reducible rfl)); try simp only [Act.put, List.setIfInBounds_toArray, List.set_cons_zero, List.set_cons_succ]))
    refine plan_loud rfl (fun K hK => ?_); go_simp
    refine (refNum_ok hw2 B 8 hB (by omega)).mono ?_
    rintro e w3 ⟨rfl, hw3⟩
    dsimp only
    refine hK _ _ ⟨cell_blk hw3.at 0, trivial⟩ ?_
    clear hK K
    try simp only [Act.put, List.setIfInBounds_toArray, List.set_cons_zero, List.set_cons_succ]
    iterate 2 (first | ((apply plan_pure rfl; (intro w1; go_simp; try go_bits); with_reducible rfl); try simp only [Act.put, List.setIfInBounds_toArray, List.set_cons_zero, List.set_cons_succ]) | ((refine' plan_load 0 rfl (by kernel_rfl) rfl ?_ ?_; rotate_left; (intro w1 hw1; go_simp; with_reducible rfl)); try simp only [Act.put, List.setIfInBounds_toArray, List.set_cons_zero, List.set_cons_succ]))
    refine plan_nil ?_
    go_wp2
    go_ret
    exact ⟨congrArg (fun z => Ending.returned (Value.string z)) hH, hw3.tail⟩
  · refine branchF_loud1 rfl rfl (fun K hK => ?_); go_simp
    refine (refNum_ok HX.out.drew A 4 hA (by omega)).mono ?_
    rintro e w2 ⟨rfl, hw2⟩
    dsimp only
    refine hK _ _ trivial ?_
    clear hK K
    simp only [planOps, List.getElem?_cons_zero, List.getElem?_cons_succ]
    try simp only [Act.put, List.setIfInBounds_toArray, List.set_cons_zero, List.set_cons_succ]
    refine plan_nil ⟨?_, ?_⟩
    · refine branch_loud1 rfl rfl (fun K hK => ?_); go_simp
      have hxA := hw2.alloc (.cells #[.int .u8 2] 5)
      refine hK _ _ (fun w1 => w1.cell? ⟨w2.heap.size, 0, none⟩ = some (.int .u8 2)) (by go_simp) (fun _ _ => trivial) ?_
      clear hK K
      simp only [planOps, List.getElem?_cons_zero, List.getElem?_cons_succ]
      try simp only [Act.put, List.setIfInBounds_toArray, List.set_cons_zero, List.set_cons_succ]
      refine plan_load (v := .string (bs [2])) 0 rfl (by kernel_rfl) rfl (fun w1 hw1 => ?_) ?_
      · have hcv := conv1 (B := 2) hw1
        go_simp
      try simp only [Act.put, List.setIfInBounds_toArray, List.set_cons_zero, List.set_cons_succ]
      iterate 2 (first | ((apply plan_pure rfl; (intro w1; go_simp; try go_bits); with_reducible rfl); try simp only [Act.put, List.setIfInBounds_toArray, List.set_cons_zero, List.set_cons_succ]) | ((refine' plan_load 0 rfl (by kernel_rfl) rfl ?_ ?_; rotate_left; (intro w1 hw1; go_simp; with_reducible rfl)); try simp only [Act.put, List.setIfInBounds_toArray, List.set_cons_zero, List.set_cons_succ]))
      refine plan_loud rfl (fun K hK => ?_); go_simp
      refine (refNum_ok hxA B 8 hB (by omega)).mono ?_
      rintro e w3 ⟨rfl, hw3⟩
      dsimp only
      refine hK _ _ ⟨cell_blk hw3.at 0, trivial⟩ ?_
      clear hK K
      try simp only [Act.put, List.setIfInBounds_toArray, List.set_cons_zero, List.set_cons_succ]
      iterate 2 (first | ((apply plan_pure rfl; (intro w1; go_simp; try go_bits); with_reducible rfl); try simp only [Act.put, List.setIfInBounds_toArray, List.set_cons_zero, List.set_cons_succ]) | ((refine' plan_load 0 rfl (by kernel_rfl) rfl ?_ ?_; rotate_left; (intro w1 hw1; go_simp; with_reducible rfl)); try simp only [Act.put, List.setIfInBounds_toArray, List.set_cons_zero, List.set_cons_succ]))
      refine plan_nil ?_
      go_wp2
      go_ret
      exact ⟨congrArg (fun z => Ending.returned (Value.string z)) hH, hw3.tail⟩
    · refine branch_loud1 rfl rfl (fun K hK => ?_); go_simp
      refine (refNum_ok hw2 B 8 hB (by omega)).mono ?_
      rintro e w3 ⟨rfl, hw3⟩
      dsimp only
      refine hK _ _ (fun _ => True) trivial (fun _ _ => trivial) ?_
      clear hK K
      simp only [planOps, List.getElem?_cons_zero, List.getElem?_cons_succ]
      try simp only [Act.put, List.setIfInBounds_toArray, List.set_cons_zero, List.set_cons_succ]
      refine plan_loud rfl (fun K hK => ?_); go_simp
      have hxA := hw3.alloc (.cells #[.int .u8 2] 5)
      refine hK _ _ ⟨trivial, trivial⟩ ?_
      clear hK K
      try simp only [Act.put, List.setIfInBounds_toArray, List.set_cons_zero, List.set_cons_succ]
      have hcv := conv1 (w := w3.alloc (.cells #[.int .u8 2] 5)) (g := w3.heap.size) (B := 2) (cell_blk hxA.at 0)
      refine plan_loud rfl (fun K hK => ?_); go_simp
      refine hK _ _ ⟨trivial, trivial⟩ ?_
      clear hK K
      try simp only [Act.put, List.setIfInBounds_toArray, List.set_cons_zero, List.set_cons_succ]
      iterate 4 (first | ((apply plan_pure rfl; (intro w1; go_simp; try go_bits); with_reducible rfl); try simp only [Act.put, List.setIfInBounds_toArray, List.set_cons_zero, List.set_cons_succ]) | ((refine' plan_load 0 rfl (by kernel_rfl) rfl ?_ ?_; rotate_left; (intro w1 hw1; go_simp; with_reducible rfl)); try simp only [Act.put, List.setIfInBounds_toArray, List.set_cons_zero, List.set_cons_succ]))
      refine plan_nil ?_
      go_wp2
      go_ret
      exact ⟨congrArg (fun z => Ending.returned (Value.string z)) hH, hxA.tail⟩
abbrev rootS : ByteArray := bs (hL 1 1 1)
abbrev neverS : ByteArray := bs (hL 2 0 0)
theorem keyS11 : keyS 1 1 = rootS := by unfold keyS; rw [if_neg (by omega)]; rfl
theorem fhRoot_ok {E W : World} {L : List HP} (x : Sat E W L) : Calls Tryz.prog 14 #[] W fun e w' => e = .returned (.string rootS) ∧ Sat E w' L := by
  have HX := Lib.hid x
  clear x
  go_enter Tryz.func14, Tryz.ntmps14
  go_wp2_with (go_at_call 25; refine (node_ok HX.out 1 1 (by omega) (by omega)).mono ?_; rintro e w2 ⟨rfl, hx2⟩)
  go_ret
  exact ⟨by rw [keyS11]; rfl, hx2⟩
theorem fhNever_ok {E W : World} {L : List HP} (x : Sat E W L) : Calls Tryz.prog 17 #[] W fun e w' => e = .returned (.string neverS) ∧ Sat E w' L := by
  have HX := Lib.hid x
  clear x
  go_enter Tryz.func17, Tryz.ntmps17
  go_wp2_with (go_at_call 33; refine (make_ok HX.out 2 0 0 (.inr rfl) (by omega) (by omega)).mono ?_; rintro e w2 ⟨rfl, hx2⟩)
  go_ret
  exact ⟨rfl, hx2⟩
theorem refRoot_ok {E W : World} {L : List HP} (x : Sat E W L) : Calls Tryz.prog 7 #[] W fun e w' => e = .returned (.string rootS) ∧ Sat E w' L := by
  have HX := Lib.hid x
  clear x
  go_enter Tryz.func7, Tryz.ntmps7
  go_wp2_with (go_at_call 12; refine (refMake_ok HX.out 1 1 (by omega) (by omega)).mono ?_; rintro e w2 ⟨rfl, hx2⟩)
  go_ret
  exact ⟨rfl, hx2⟩
theorem refNever_ok {E W : World} {L : List HP} (x : Sat E W L) : Calls Tryz.prog 6 #[] W fun e w' => e = .returned (.string neverS) ∧ Sat E w' L := by
  have HX := Lib.hid x
  clear x
  go_enter Tryz.func6, Tryz.ntmps6
  go_wp2_with (go_at_call 12; refine (refMake2_ok HX.out 0 0 (by omega) (by omega)).mono ?_; rintro e w2 ⟨rfl, hx2⟩)
  go_ret
  exact ⟨rfl, hx2⟩
end Go.Proofs.YtodjdcdbmbmbmaaGreatDoor
