/-
  The row is well formed.
-/
import Derived.Test.YtmnmdlmmeldiiaaGreatDoorRows
import Derived.Test.YtmnmdlmmeldiiaaGreatDoorCards
import Derived.SevenTiedAt
import Derived.KernelRfl
import Derived.WalkKit
namespace Go.Proofs.YtmnmdlmmeldiiaaGreatDoor.proxyNil
set_option maxRecDepth 100000
theorem wfT : Rows.proxyNilRow.wfByText (OpenSpec.ofChange Rows.proxyNilSpec) = true := by kernel_rfl
end Go.Proofs.YtmnmdlmmeldiiaaGreatDoor.proxyNil
