/-
  Nothing is looked at.
-/
import Derived.Test.YtjmfclhilmmamaaGreatDoorRows
import Derived.Test.YtjmfclhilmmamaaGreatDoorCards
import Derived.SevenTiedAt
import Derived.KernelRfl
import Derived.WalkKit
namespace Go.Proofs.YtjmfclhilmmamaaGreatDoor.shelfKeys
set_option maxRecDepth 100000
theorem looksF : false = Tryz.prog.looks [] := by kernel_rfl
end Go.Proofs.YtjmfclhilmmamaaGreatDoor.shelfKeys
