/-
  DERIVED. GIVEN WITH THE SEED: THE CARDS: each row of YtodjdcdbmbmbmaaGreatDoorRows.lean that lists a variable, with what it lists TIED to the program's text (the seventh form; the later family's looks); each row that meets fmt, with fmt's text TOLD by the authors' own Lean function (tested against real Go, not proved from fmt's source: count such statements apart). THE CARD IS WHAT COUNTS. Prove the row's statement (the work); the ties are given (YtodjdcdbmbmbmaaGreatDoorTie.lean); close each card by the builder's one call (the guide's Derived/Test/ToyasCard.lean, 'card_holds'). Laid BY PROGRAM, IN A SANDBOX (cutbox-door.mjs). By AI agents, Wed Nov 11 2026. No macro, syntax, notation, axiom, sorry.
-/
import Derived.Test.YtodjdcdbmbmbmaaGreatDoorRows
import GoSem.ClaimSeven
namespace Go.Proofs.YtodjdcdbmbmbmaaGreatDoor
namespace Rows

/-- THE TIED CARD OF 'posthouselaw29.RemapNil'. -/
def remapNilCard : Claim7 := { stood := { row := remapNilRow, standIns := [], harness := (true, "136b4c79d8987b2dd5900612cb7e7d6d49a6c82284572ea0ae21ad3756b9dc19"), looks := false }, kinds := [], alts := [], laidByText := true, laidKinds := [.data, .data, .pinned], laidTests := true, laidLooks := .later }
def RemapNilCardSaid : Prop := Claim7.holds Tryz.pinned (.plain (OpenSpec.ofChange remapNilSpec)) remapNilCard

/-- THE SECOND FORM's CARD OF 'posthouselaw29.RemapNil'. -/
def remapNilUptoCard : Claim7 := { stood := { row := remapNilUptoRow, standIns := [], harness := (true, "136b4c79d8987b2dd5900612cb7e7d6d49a6c82284572ea0ae21ad3756b9dc19"), looks := false }, kinds := [], alts := [], laidByText := true, laidKinds := [.data, .data, .pinned], laidTests := true, laidLooks := .later }
def RemapNilUptoCardSaid : Prop := Claim7.holds Tryz.pinned (.plain (OpenSpec.upto remapNilSpec)) remapNilUptoCard
end Rows
end Go.Proofs.YtodjdcdbmbmbmaaGreatDoor
