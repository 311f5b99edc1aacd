/-
  The row is well formed.
-/
import Derived.Test.YtmpfckdagibfiaaGreatDoorRows
import Derived.Test.YtmpfckdagibfiaaGreatDoorCards
import Derived.SevenTiedAt
import Derived.KernelRfl
import Derived.WalkKit
namespace Go.Proofs.YtmpfckdagibfiaaGreatDoor.learnNil
set_option maxRecDepth 100000
theorem wfT : Rows.learnNilRow.wfByText (OpenSpec.ofChange Rows.learnNilSpec) = true := by kernel_rfl
end Go.Proofs.YtmpfckdagibfiaaGreatDoor.learnNil
