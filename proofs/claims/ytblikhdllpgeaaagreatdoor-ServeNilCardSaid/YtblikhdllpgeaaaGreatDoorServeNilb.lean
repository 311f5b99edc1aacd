/-
  The row.
-/
import Derived.Test.YtblikhdllpgeaaaGreatDoorServeNila
import Derived.Test.YtblikhdllpgeaaaGreatDoorRows
import Derived.Test.YtblikhdllpgeaaaGreatDoorServeL
import Derived.Test.YtblikhdllpgeaaaGreatDoorServeF
import Derived.Test.YtblikhdllpgeaaaGreatDoorServeP
import Derived.Test.YtblikhdllpgeaaaGreatDoorCards
import Derived.Test.YtblikhdllpgeaaaGreatDoorTie
import Derived.LaidMore
import Derived.Lay
import Derived.SevenTiedAt
import Derived.Stop.Joined
import Derived.WalkKit
import Derived.ProofKit
import Derived.OpenShut
import Derived.ShutString
namespace Go.Proofs.YtblikhdllpgeaaaGreatDoor.serveNil
open Go.ChangeShapes Go.WideShapes Go.ChangeAt Go.RowKit PH
open Go.ChangeMaps (open_string shut_string)
set_option linter.unusedVariables false

theorem over : Rows.serveNilRow.holds Tryz.pinned (OpenSpec.ofChange Rows.serveNilSpec) :=
  OpenClaim.holds_of_wide 3 Tryz.f3 rfl rfl rfl rfl rfl rfl rfl ⟨rfl, rfl, rfl, rfl, rfl⟩ rfl rfl rfl rfl rfl named Tryz.func3 closed inst wrap
    (fun os started H enc _ => lifted os started H enc)

end Go.Proofs.YtblikhdllpgeaaaGreatDoor.serveNil
