/-
  The row.
-/
import Derived.Test.YtmnmdlmmeldiiaaGreatDoorProxyNila
import Derived.Test.YtmnmdlmmeldiiaaGreatDoorRows
import Derived.Test.YtmnmdlmmeldiiaaGreatDoorProxyK
import Derived.Test.YtmnmdlmmeldiiaaGreatDoorProxyF
import Derived.Test.YtmnmdlmmeldiiaaGreatDoorProxyP
import Derived.Test.YtmnmdlmmeldiiaaGreatDoorLaidG
import Derived.Test.YtmnmdlmmeldiiaaGreatDoorCards
import Derived.Test.YtmnmdlmmeldiiaaGreatDoorTieB
import Derived.LaidMore
import Derived.Lay
import Derived.SevenTiedAt
import Derived.Stop.Joined
import Derived.WalkKit
import Derived.ProofKit
import Derived.OpenShut
import Derived.ShutString
namespace Go.Proofs.YtmnmdlmmeldiiaaGreatDoor.proxyNil
open Go.ChangeShapes Go.WideShapes Go.ChangeAt Go.RowKit PH
open Go.ChangeMaps (open_string shut_string)
set_option linter.unusedVariables false

theorem over : Rows.proxyNilRow.holds Tryz.pinned (OpenSpec.ofChange Rows.proxyNilSpec) :=
  OpenClaim.holds_of_wide 3 Tryz.f3 rfl rfl rfl rfl rfl rfl rfl ⟨rfl, rfl, rfl, rfl, rfl⟩ rfl rfl rfl rfl rfl named Tryz.func3 closed inst wrap
    (fun os started H enc _ => lifted os started H enc)

end Go.Proofs.YtmnmdlmmeldiiaaGreatDoor.proxyNil
