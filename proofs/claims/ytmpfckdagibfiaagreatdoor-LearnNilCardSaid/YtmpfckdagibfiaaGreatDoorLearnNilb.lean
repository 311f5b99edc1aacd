/-
  The row.
-/
import Derived.Test.YtmpfckdagibfiaaGreatDoorLearnNila
import Derived.Test.YtmpfckdagibfiaaGreatDoorRows
import Derived.Test.YtmpfckdagibfiaaGreatDoorLearnO
import Derived.Test.YtmpfckdagibfiaaGreatDoorLearnF
import Derived.Test.YtmpfckdagibfiaaGreatDoorLearnP
import Derived.Test.YtmpfckdagibfiaaGreatDoorCards
import Derived.Test.YtmpfckdagibfiaaGreatDoorTie
import Derived.LaidMore
import Derived.Lay
import Derived.SevenTiedAt
import Derived.Stop.Joined
import Derived.WalkKit
import Derived.ProofKit
import Derived.OpenShut
import Derived.ShutString
namespace Go.Proofs.YtmpfckdagibfiaaGreatDoor.learnNil
open Go.ChangeShapes Go.WideShapes Go.ChangeAt Go.RowKit PH
open Go.ChangeMaps (open_string shut_string)
set_option linter.unusedVariables false

theorem over : Rows.learnNilRow.holds Tryz.pinned (OpenSpec.ofChange Rows.learnNilSpec) :=
  OpenClaim.holds_of_wide 3 Tryz.f3 rfl rfl rfl rfl rfl rfl rfl ⟨rfl, rfl, rfl, rfl, rfl⟩ rfl rfl rfl rfl rfl named Tryz.func3 closed inst wrap
    (fun os started H enc _ => lifted os started H enc)

end Go.Proofs.YtmpfckdagibfiaaGreatDoor.learnNil
