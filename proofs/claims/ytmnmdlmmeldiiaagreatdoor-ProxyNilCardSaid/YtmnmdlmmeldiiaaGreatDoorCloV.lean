/-
  The row's facts that hang on the closure.
-/
import Derived.Test.YtmnmdlmmeldiiaaGreatDoorClo
namespace Go.Proofs.YtmnmdlmmeldiiaaGreatDoor.proxyNil
open Go.RowKit PH
theorem k12 : ((Rows.proxyNilRow.named == Tryz.prog.varsNamed 3)) = true := by
  unfold Program.varsNamed
  rw [clo]
  kernel_rfl
end Go.Proofs.YtmnmdlmmeldiiaaGreatDoor.proxyNil
