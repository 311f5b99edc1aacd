/-
  The row's facts that hang on the closure.
-/
import Derived.Test.YtmnmdlmmeldiiaaGreatDoorClo
namespace Go.Proofs.YtmnmdlmmeldiiaaGreatDoor.proxyNil
open Go.RowKit PH
theorem k9 : ((Rows.proxyNilRow.inPlace == Tryz.prog.inPlace 3)) = true := by
  unfold Program.inPlace
  rw [clo]
  kernel_rfl
theorem unf : Tryz.prog.unfollowed 3 = Rows.proxyNilRow.unfollowed := by
  unfold Program.unfollowed
  rw [clo]
  kernel_rfl
theorem k10 : ((Rows.proxyNilRow.unfollowed == Tryz.prog.unfollowed 3)) = true := by
  rw [unf]
  kernel_rfl
theorem k11 : ((Rows.proxyNilRow.recurses == Tryz.prog.recurses 3)) = true := by
  unfold Program.recurses
  rw [unf]
  kernel_rfl
end Go.Proofs.YtmnmdlmmeldiiaaGreatDoor.proxyNil
