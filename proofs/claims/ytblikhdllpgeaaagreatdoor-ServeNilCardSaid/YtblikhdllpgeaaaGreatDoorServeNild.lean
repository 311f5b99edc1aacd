/-
  Nothing is looked at.
-/
import Derived.Test.YtblikhdllpgeaaaGreatDoorRows
import Derived.Test.YtblikhdllpgeaaaGreatDoorCards
import Derived.SevenTiedAt
import Derived.KernelRfl
import Derived.WalkKit
namespace Go.Proofs.YtblikhdllpgeaaaGreatDoor.serveNil
set_option maxRecDepth 100000
theorem looksF : false = Tryz.prog.looks [] := by kernel_rfl
end Go.Proofs.YtblikhdllpgeaaaGreatDoor.serveNil
