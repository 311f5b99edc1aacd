/-
  Nothing is looked at.
-/
import Derived.Test.YtmpfckdagibfiaaGreatDoorRows
import Derived.Test.YtmpfckdagibfiaaGreatDoorCards
import Derived.SevenTiedAt
import Derived.KernelRfl
import Derived.WalkKit
namespace Go.Proofs.YtmpfckdagibfiaaGreatDoor.learnNil
set_option maxRecDepth 100000
theorem looksF : false = Tryz.prog.looks [] := by kernel_rfl
end Go.Proofs.YtmpfckdagibfiaaGreatDoor.learnNil
