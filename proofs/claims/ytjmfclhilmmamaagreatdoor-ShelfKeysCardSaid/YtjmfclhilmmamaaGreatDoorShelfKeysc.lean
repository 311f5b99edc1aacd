/-
  The row is well formed.
-/
import Derived.Test.YtjmfclhilmmamaaGreatDoorRows
import Derived.Test.YtjmfclhilmmamaaGreatDoorCards
import Derived.SevenTiedAt
import Derived.KernelRfl
import Derived.WalkKit
namespace Go.Proofs.YtjmfclhilmmamaaGreatDoor.shelfKeys
set_option maxRecDepth 100000
theorem wfT : Rows.shelfKeysRow.wfByText (OpenSpec.ofChange Rows.shelfKeysSpec) = true := by kernel_rfl
end Go.Proofs.YtjmfclhilmmamaaGreatDoor.shelfKeys
