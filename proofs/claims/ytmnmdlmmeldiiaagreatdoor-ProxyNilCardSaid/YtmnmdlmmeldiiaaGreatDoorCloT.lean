/-
  The types' layout, reckoned in chunks.
-/
import Derived.Test.YtmnmdlmmeldiiaaGreatDoorClo
namespace Go.Proofs.YtmnmdlmmeldiiaaGreatDoor.proxyNil
open Go.RowKit PH
theorem ty0 : ((List.range' 0 96).all (rowFine Tryz.prog)) = true := by kernel_rfl
theorem ty1 : ((List.range' 96 96).all (rowFine Tryz.prog)) = true := by kernel_rfl
theorem ty2 : ((List.range' 192 96).all (rowFine Tryz.prog)) = true := by kernel_rfl
theorem ty3 : ((List.range' 288 96).all (rowFine Tryz.prog)) = true := by kernel_rfl
theorem ty4 : ((List.range' 384 96).all (rowFine Tryz.prog)) = true := by kernel_rfl
theorem ty5 : ((List.range' 480 96).all (rowFine Tryz.prog)) = true := by kernel_rfl
theorem ty6 : ((List.range' 576 96).all (rowFine Tryz.prog)) = true := by kernel_rfl
theorem ty7 : ((List.range' 672 74).all (rowFine Tryz.prog)) = true := by kernel_rfl
theorem tyAll : ((List.range Tryz.prog.types.size).all (rowFine Tryz.prog)) = true := by
  rw [show Tryz.prog.types.size = 746 by kernel_rfl, List.range_eq_range']
  exact (all_range_add _ 672 74 (all_range_add _ 576 96 (all_range_add _ 480 96 (all_range_add _ 384 96 (all_range_add _ 288 96 (all_range_add _ 192 96 (all_range_add _ 96 96 ty0 ty1) ty2) ty3) ty4) ty5) ty6) ty7)
theorem k1 : (laidOutB Tryz.prog) = true := by
  unfold laidOutB
  rw [tyAll, Bool.true_and]
  kernel_rfl
end Go.Proofs.YtmnmdlmmeldiiaaGreatDoor.proxyNil
