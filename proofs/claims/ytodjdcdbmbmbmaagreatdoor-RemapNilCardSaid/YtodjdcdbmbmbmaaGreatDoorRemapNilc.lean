/-
  The row is well formed.
-/
import Derived.Test.YtodjdcdbmbmbmaaGreatDoorRows
import Derived.Test.YtodjdcdbmbmbmaaGreatDoorCards
import Derived.SevenTiedAt
import Derived.KernelRfl
import Derived.WalkKit
namespace Go.Proofs.YtodjdcdbmbmbmaaGreatDoor.remapNil
set_option maxRecDepth 100000
theorem wfT : Rows.remapNilRow.wfByText (OpenSpec.ofChange Rows.remapNilSpec) = true := by kernel_rfl
end Go.Proofs.YtodjdcdbmbmbmaaGreatDoor.remapNil
