/-
  The statement 'RemapNilCardSaid', proved: 'posthouselaw29.RemapNil' answers true at every input, and the input reads as it did. No condition but that two tables of Go's library (utf8.first, utf8.acceptRanges) hold at the start what the library's text lays: the card ties it. (The frame is as the kit's shell program prints it.)
-/
import Derived.Test.YtodjdcdbmbmbmaaGreatDoorRemapNilb
import Derived.Test.YtodjdcdbmbmbmaaGreatDoorRemapNilc
import Derived.Test.YtodjdcdbmbmbmaaGreatDoorRemapNild
import Derived.Test.YtodjdcdbmbmbmaaGreatDoorRemapNile
import Derived.Test.YtodjdcdbmbmbmaaGreatDoorRows
import Derived.Test.YtodjdcdbmbmbmaaGreatDoorRemapL
import Derived.Test.YtodjdcdbmbmbmaaGreatDoorRemapF
import Derived.Test.YtodjdcdbmbmbmaaGreatDoorLaidG
import Derived.Test.YtodjdcdbmbmbmaaGreatDoorCards
import Derived.Test.YtodjdcdbmbmbmaaGreatDoorTie
import Derived.LaidMore
import Derived.Lay
import Derived.SevenTiedAt
import Derived.Stop.Joined
import Derived.WalkKit
import Derived.ProofKit
import Derived.OpenShut
import Derived.ShutString
namespace Go.Proofs.YtodjdcdbmbmbmaaGreatDoor.remapNil
open Go.ChangeShapes Go.WideShapes Go.ChangeAt Go.RowKit PH
open Go.ChangeMaps (open_string shut_string)
set_option linter.unusedVariables false

/-- ████ THE STATEMENT: the tied card ████ -/
theorem proved : Rows.RemapNilCardSaid :=
  Claim7.holds_tied_plain_at .later [] [.data, .data, .pinned] true Rows.remapNilCard.stood.harness false over (fun _ h => by cases h) wfT (fun _ h => by cases h) remapNil_row_tie rfl ⟨rfl, rfl⟩ (by as_aux_lemma => kernel_rfl) rfl
    (fun f fn hf hfn => by
      obtain rfl : f = 3 := Option.some.inj ((show Tryz.prog.funcNamed "posthouse/posthouselaw29.RemapNil" = some 3 by kernel_rfl).symm.trans hf) |>.symm
      obtain rfl : fn = Tryz.f3 := (Option.some.inj (Tryz.func3.symm.trans hfn)).symm
      exact ⟨looksF, fun j t ht => by
        rw [Tryz.params3] at ht
        have hm : t ∈ [9] := by simpa using Array.mem_of_getElem? ht
        have hall : ([9].all fun u => !Tryz.prog.wantsStandIn u) = true := by kernel_rfl
        exact (show Tryz.prog.wantsStandIn t = false by simpa using List.all_eq_true.1 hall t hm)⟩)
    goesF
#print axioms proved
end Go.Proofs.YtodjdcdbmbmbmaaGreatDoor.remapNil
