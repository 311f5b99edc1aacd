/-
  The document's handles: posthouseref03.Make.
-/
import Derived.Test.YtodjdcdbmbmbmaaGreatDoorFhM
import Derived.Test.YtodjdcdbmbmbmaaGreatDoorPlan2
namespace PH
open Go Go.RowKit
section
variable {P : Program} {Q : Exit → Act → World → Prop} {l : List Oper} {p : World → Prop}
theorem branch_loud1 {i : Nat} {plan : List (Nat × Bool)} {a : Act} {w : World} {o : Oper} (ho : l[i]? = some o) (hw : Region.wanted o (yielded l.toArray a.tmps) = true)
    (h : ∀ K : Act → World → Prop, (∀ a' w' (p' : World → Prop), p' w' → (∀ w, p' w → p w) → wpPlanL P .any l.toArray Q [(l.length, p')] (Q .normal) (planOps l plan) a' w' → K a' w') → o.wp P a w K Q) : wpBranch P .any l Q p i plan a w :=
  ⟨o, ho, hw, h _ fun a' w' p' h1 h2 h3 => ⟨p', h1, h2, h3⟩⟩
theorem branchF_loud1 {j : Nat} {plan : List (Nat × Bool)} {i2 j2 : Nat} {planA2 planB2 : List (Nat × Bool)} {a : Act} {w : World} {o : Oper} (ho : l[j]? = some o) (hw : Region.wanted o (yielded l.toArray a.tmps) = true)
    (h : ∀ K : Act → World → Prop, (∀ a' w', p w' → wpPlanL P .any l.toArray Q [(l.length, p)] (fun a w => wpBranch P .any l Q p i2 planA2 a w ∧ wpBranch P .any l Q p j2 planB2 a w) (planOps l plan) a' w' → K a' w') → o.wp P a w K Q) : wpBranchF P .any l Q p j plan i2 j2 planA2 planB2 a w :=
  ⟨o, ho, hw, h _ fun a' w' h1 h2 => ⟨h1, h2⟩⟩
end
end PH
namespace Go.Proofs.YtodjdcdbmbmbmaaGreatDoor
open Go.RowKit PH

theorem conv1 {w : World} {g : Nat} {B : Nat} (hc : w.cell? ⟨g, 0, none⟩ = some (.int .u8 B)) : (convert 58 9 (.slice (some ⟨g, 0, none⟩) 1 1)).run Tryz.prog w = .ok (.string (bs [B])) w := by
  have := run_convert_bytes_arg (P := Tryz.prog) w 58 5 Tryz.underlying58 Tryz.underlying5 g 0 1 1 [(B : Int)] rfl (fun i hi => by
    obtain rfl : i = 0 := by omega
    exact hc) 9 Tryz.underlying9
  rw [show [(B : Int)] = [B].map (fun c : Nat => (c : Int)) from rfl, strOfNums_bs] at this
  exact this
theorem hL_text (A B : Nat) : bs [1] ++ ByteArray.mk #[0, 0, 0] ++ bs (numL A 4) ++ bs (numL B 8) = bs (hL 1 A B) := by
  have e : ByteArray.mk #[0, 0, 0] = bs [0, 0, 0] := rfl
  rw [e, ← bs_append, ← bs_append, ← bs_append]
  rfl
set_option maxRecDepth 100000 in
set_option maxHeartbeats 1600000 in
theorem refMake_ok {E W : World} {L : List HP} (x : Sat E W L) (A B : Nat) (hA : A ≤ 9223372036854775807) (hB : B ≤ 9223372036854775807) :
    Calls Tryz.prog 12 #[.int .i64 1, .int .i64 A, .int .i64 B] W fun e w' => e = .returned (.string (bs (hL 1 A B))) ∧ Sat E w' L := by
  have HX := Lib.hid x
  have hH := hL_text A B
  have hs1 : (bs [1]).size = 1 := bs_size _
  have hs4 : (bs (numL A 4)).size = 4 := by rw [bs_size, numL_len]
  have hs8 : (bs (numL B 8)).size = 8 := by rw [bs_size, numL_len]
  clear x
  go_enter Tryz.func12, Tryz.ntmps12
  go_wp2
  refine wp_region_fork2 [(0, true), (1, true), (5, true), (8, true)] 2 6 [(3, true), (4, true), (6, false), (7, true), (9, false), (10, true), (11, true)] [] 2 9 [(3, true), (4, true), (7, true), (9, false), (10, true), (11, true)] [(2, false), (3, false), (4, true), (7, true), (10, true), (11, true)]
    (fun _ => True) (by kernel_rfl) (by kernel_rfl) (by intro c a d v w h; cases d <;> exact h) ?_ ?_
  · trivial
  simp only [planOps, List.getElem?_cons_zero, List.getElem?_cons_succ]
  iterate 4 (first | ((apply plan_pure rfl; (intro w1; go_simp; try go_bits); with_reducible rfl); try simp only [Act.put, List.setIfInBounds_toArray, List.set_cons_zero, List.set_cons_succ]) | ((refine' plan_load 0 rfl (by kernel_rfl) rfl ?_ ?_; rotate_left; (intro w1 hw1; go_simp; with_reducible rfl)); try simp only [Act.put, List.setIfInBounds_toArray, List.set_cons_zero, List.set_cons_succ]))
  refine plan_nil ⟨?_, ?_⟩
  · refine branch_loud1 rfl rfl (fun K hK => ?_); go_simp
    have hxA := (HX.out.alloc (.cells #[.int .u8 1] 5)).drew
    refine hK _ _ (fun w1 => w1.cell? ⟨W.heap.size, 0, none⟩ = some (.int .u8 1)) (by go_simp) (fun _ _ => trivial) ?_
    clear hK K
    simp only [planOps, List.getElem?_cons_zero, List.getElem?_cons_succ]
    try simp only [Act.put, List.setIfInBounds_toArray, List.set_cons_zero, List.set_cons_succ]
    refine plan_load (v := .string (bs [1])) 0 rfl (by kernel_rfl) rfl (fun w1 hw1 => ?_) ?_
    · have hcv := conv1 (B := 1) hw1
      go_simp
    try simp only [Act.put, List.setIfInBounds_toArray, List.set_cons_zero, List.set_cons_succ]
    iterate 1 (first | ((apply plan_pure rfl; (intro w1; go_simp; try go_bits); with_reducible rfl); try simp only [Act.put, List.setIfInBounds_toArray, List.set_cons_zero, List.set_cons_succ]) | ((refine' plan_load 0 rfl (by kernel_rfl) rfl ?_ ?_; rotate_left; (intro w1 hw1; go_simp; with_reducible rfl)); try simp only [Act.put, List.setIfInBounds_toArray, List.set_cons_zero, List.set_cons_succ]))
    refine plan_loud rfl (fun K hK => ?_); go_simp
    refine (refNum_ok hxA A 4 hA (by omega)).mono ?_
    rintro e w2 ⟨rfl, hw2⟩
    dsimp only
    refine hK _ _ ⟨cell_blk hw2.at 0, trivial⟩ ?_
    clear hK K
    try simp only [Act.put, List.setIfInBounds_toArray, List.set_cons_zero, List.set_cons_succ]
    iterate 1 (first | ((apply plan_pure rfl; (intro w1; go_simp; try go_bits); with_reducible rfl); try simp only [Act.put, List.setIfInBounds_toArray, List.set_cons_zero, List.set_cons_succ]) | ((refine' plan_load 0 rfl (by kernel_rfl) rfl ?_ ?_; rotate_left; (intro w1 hw1; go_simp; with_reducible rfl)); try simp only [Act.put, List.setIfInBounds_toArray, List.set_cons_zero, List.set_cons_succ]))
    refine plan_loud rfl (fun K hK => ?_); go_simp
    refine (refNum_ok hw2 B 8 hB (by omega)).mono ?_
    rintro e w3 ⟨rfl, hw3⟩
    dsimp only
    refine hK _ _ ⟨cell_blk hw3.at 0, trivial⟩ ?_
    clear hK K
    try simp only [Act.put, List.setIfInBounds_toArray, List.set_cons_zero, List.set_cons_succ]
    iterate 2 (first | ((apply plan_pure rfl; (intro w1; go_simp; try go_bits); with_reducible rfl); try simp only [Act.put, List.setIfInBounds_toArray, List.set_cons_zero, List.set_cons_succ]) | ((refine' plan_load 0 rfl (by kernel_rfl) rfl ?_ ?_; rotate_left; (intro w1 hw1; go_simp; with_reducible rfl)); try simp only [Act.put, List.setIfInBounds_toArray, List.set_cons_zero, List.set_cons_succ]))
    refine plan_nil ?_
    go_wp2
    go_ret
    exact ⟨congrArg (fun z => Ending.returned (Value.string z)) hH, hw3.tail⟩
  · refine branchF_loud1 rfl rfl (fun K hK => ?_); go_simp
    refine (refNum_ok HX.out.drew A 4 hA (by omega)).mono ?_
    rintro e w2 ⟨rfl, hw2⟩
    dsimp only
    refine hK _ _ trivial ?_
    clear hK K
    simp only [planOps, List.getElem?_cons_zero, List.getElem?_cons_succ]
    try simp only [Act.put, List.setIfInBounds_toArray, List.set_cons_zero, List.set_cons_succ]
    refine plan_nil ⟨?_, ?_⟩
    · refine branch_loud1 rfl rfl (fun K hK => ?_); go_simp
      have hxA := hw2.alloc (.cells #[.int .u8 1] 5)
      refine hK _ _ (fun w1 => w1.cell? ⟨w2.heap.size, 0, none⟩ = some (.int .u8 1)) (by go_simp) (fun _ _ => trivial) ?_
      clear hK K
      simp only [planOps, List.getElem?_cons_zero, List.getElem?_cons_succ]
      try simp only [Act.put, List.setIfInBounds_toArray, List.set_cons_zero, List.set_cons_succ]
      refine plan_load (v := .string (bs [1])) 0 rfl (by kernel_rfl) rfl (fun w1 hw1 => ?_) ?_
      · have hcv := conv1 (B := 1) hw1
        go_simp
      try simp only [Act.put, List.setIfInBounds_toArray, List.set_cons_zero, List.set_cons_succ]
      iterate 2 (first | ((apply plan_pure rfl; (intro w1; go_simp; try go_bits); with_reducible rfl); try simp only [Act.put, List.setIfInBounds_toArray, List.set_cons_zero, List.set_cons_succ]) | ((refine' plan_load 0 rfl (by kernel_rfl) rfl ?_ ?_; rotate_left; (intro w1 hw1; go_simp; with_reducible rfl)); try simp only [Act.put, List.setIfInBounds_toArray, List.set_cons_zero, List.set_cons_succ]))
      refine plan_loud rfl (fun K hK => ?_); go_simp
      refine (refNum_ok hxA B 8 hB (by omega)).mono ?_
      rintro e w3 ⟨rfl, hw3⟩
      dsimp only
      refine hK _ _ ⟨cell_blk hw3.at 0, trivial⟩ ?_
      clear hK K
      try simp only [Act.put, List.setIfInBounds_toArray, List.set_cons_zero, List.set_cons_succ]
      iterate 2 (first | ((apply plan_pure rfl; (intro w1; go_simp; try go_bits); with_reducible rfl); try simp only [Act.put, List.setIfInBounds_toArray, List.set_cons_zero, List.set_cons_succ]) | ((refine' plan_load 0 rfl (by kernel_rfl) rfl ?_ ?_; rotate_left; (intro w1 hw1; go_simp; with_reducible rfl)); try simp only [Act.put, List.setIfInBounds_toArray, List.set_cons_zero, List.set_cons_succ]))
      refine plan_nil ?_
      go_wp2
      go_ret
      exact ⟨congrArg (fun z => Ending.returned (Value.string z)) hH, hw3.tail⟩
    · refine branch_loud1 rfl rfl (fun K hK => ?_); go_simp
      refine (refNum_ok hw2 B 8 hB (by omega)).mono ?_
      rintro e w3 ⟨rfl, hw3⟩
      dsimp only
      refine hK _ _ (fun _ => True) trivial (fun _ _ => trivial) ?_
      clear hK K
      simp only [planOps, List.getElem?_cons_zero, List.getElem?_cons_succ]
      try simp only [Act.put, List.setIfInBounds_toArray, List.set_cons_zero, List.set_cons_succ]
      refine plan_loud rfl (fun K hK => ?_); go_simp
      have hxA := hw3.alloc (.cells #[.int .u8 1] 5)
      refine hK _ _ ⟨trivial, trivial⟩ ?_
      clear hK K
      try simp only [Act.put, List.setIfInBounds_toArray, List.set_cons_zero, List.set_cons_succ]
      have hcv := conv1 (w := w3.alloc (.cells #[.int .u8 1] 5)) (g := w3.heap.size) (B := 1) (cell_blk hxA.at 0)
      refine plan_loud rfl (fun K hK => ?_); go_simp
      refine hK _ _ ⟨trivial, trivial⟩ ?_
      clear hK K
      try simp only [Act.put, List.setIfInBounds_toArray, List.set_cons_zero, List.set_cons_succ]
      iterate 4 (first | ((apply plan_pure rfl; (intro w1; go_simp; try go_bits); with_reducible rfl); try simp only [Act.put, List.setIfInBounds_toArray, List.set_cons_zero, List.set_cons_succ]) | ((refine' plan_load 0 rfl (by kernel_rfl) rfl ?_ ?_; rotate_left; (intro w1 hw1; go_simp; with_reducible rfl)); try simp only [Act.put, List.setIfInBounds_toArray, List.set_cons_zero, List.set_cons_succ]))
      refine plan_nil ?_
      go_wp2
      go_ret
      exact ⟨congrArg (fun z => Ending.returned (Value.string z)) hH, hxA.tail⟩
end Go.Proofs.YtodjdcdbmbmbmaaGreatDoor
