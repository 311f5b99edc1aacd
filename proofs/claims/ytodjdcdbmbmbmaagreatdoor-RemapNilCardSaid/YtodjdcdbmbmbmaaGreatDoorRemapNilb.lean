/-
  The row.
-/
import Derived.Test.YtodjdcdbmbmbmaaGreatDoorRemapNila
import Derived.Test.YtodjdcdbmbmbmaaGreatDoorRows
import Derived.Test.YtodjdcdbmbmbmaaGreatDoorRemapL
import Derived.Test.YtodjdcdbmbmbmaaGreatDoorRemapF
import Derived.Test.YtodjdcdbmbmbmaaGreatDoorLaidG
import Derived.Test.YtodjdcdbmbmbmaaGreatDoorCards
import Derived.Test.YtodjdcdbmbmbmaaGreatDoorTie
import Derived.LaidMore
import Derived.Lay
import Derived.SevenTiedAt
import Derived.Stop.Joined
import Derived.WalkKit
import Derived.ProofKit
import Derived.OpenShut
import Derived.ShutString
namespace Go.Proofs.YtodjdcdbmbmbmaaGreatDoor.remapNil
open Go.ChangeShapes Go.WideShapes Go.ChangeAt Go.RowKit PH
open Go.ChangeMaps (open_string shut_string)
set_option linter.unusedVariables false

theorem over : Rows.remapNilRow.holds Tryz.pinned (OpenSpec.ofChange Rows.remapNilSpec) :=
  OpenClaim.holds_of_wide 3 Tryz.f3 rfl rfl rfl rfl rfl rfl rfl ⟨rfl, rfl, rfl, rfl, rfl⟩ rfl rfl rfl rfl rfl named Tryz.func3 closed inst wrap
    (fun os started H enc _ => lifted os started H enc)

end Go.Proofs.YtodjdcdbmbmbmaaGreatDoor.remapNil
