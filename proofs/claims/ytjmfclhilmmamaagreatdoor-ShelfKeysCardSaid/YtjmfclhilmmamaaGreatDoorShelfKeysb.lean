/-
  The row.
-/
import Derived.Test.YtjmfclhilmmamaaGreatDoorShelfKeysa
import Derived.Test.YtjmfclhilmmamaaGreatDoorRows
import Derived.Test.YtjmfclhilmmamaaGreatDoorKeysL
import Derived.Test.YtjmfclhilmmamaaGreatDoorKeysF
import Derived.Test.YtjmfclhilmmamaaGreatDoorKeysP
import Derived.Test.YtjmfclhilmmamaaGreatDoorCards
import Derived.Test.YtjmfclhilmmamaaGreatDoorTie
import Derived.LaidMore
import Derived.Lay
import Derived.SevenTiedAt
import Derived.Stop.Joined
import Derived.WalkKit
import Derived.ProofKit
import Derived.OpenShut
import Derived.ShutString
namespace Go.Proofs.YtjmfclhilmmamaaGreatDoor.shelfKeys
open Go.ChangeShapes Go.WideShapes Go.ChangeAt Go.RowKit PH
open Go.ChangeMaps (open_string shut_string)
set_option linter.unusedVariables false

theorem over : Rows.shelfKeysRow.holds Tryz.pinned (OpenSpec.ofChange Rows.shelfKeysSpec) :=
  OpenClaim.holds_of_wide 3 Tryz.f3 rfl rfl rfl rfl rfl rfl rfl ⟨rfl, rfl, rfl, rfl, rfl⟩ rfl rfl rfl rfl rfl named Tryz.func3 closed inst wrap
    (fun os started H enc _ => lifted os started H enc)

end Go.Proofs.YtjmfclhilmmamaaGreatDoor.shelfKeys
