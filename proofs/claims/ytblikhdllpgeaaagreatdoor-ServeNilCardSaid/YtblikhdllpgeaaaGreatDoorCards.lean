/-
  DERIVED. GIVEN WITH THE SEED: THE CARDS: each row of YtblikhdllpgeaaaGreatDoorRows.lean that lists a variable, with what it lists TIED to the program's text (the seventh form; the later family's looks); each row that meets fmt, with fmt's text TOLD by the authors' own Lean function (tested against real Go, not proved from fmt's source: count such statements apart). THE CARD IS WHAT COUNTS. Prove the row's statement (the work); the ties are given (YtblikhdllpgeaaaGreatDoorTie.lean); close each card by the builder's one call (the guide's Derived/Test/ToyasCard.lean, 'card_holds'). Laid BY PROGRAM, IN A SANDBOX (cutbox-door.mjs). By AI agents, Wed Nov 11 2026. No macro, syntax, notation, axiom, sorry.
-/
import Derived.Test.YtblikhdllpgeaaaGreatDoorRows
import GoSem.ClaimSeven
namespace Go.Proofs.YtblikhdllpgeaaaGreatDoor
namespace Rows

/-- THE TIED CARD OF 'posthouselaw30.ServeNil'. -/
def serveNilCard : Claim7 := { stood := { row := serveNilRow, standIns := [], harness := (true, "86971311c1b1f55257d6aa4f7d97692cdf0ddc1179b17742e62ff67c300b9def"), looks := false }, kinds := [], alts := [], laidByText := true, laidKinds := [.data, .pinned], laidTests := true, laidLooks := .later }
def ServeNilCardSaid : Prop := Claim7.holds Tryz.pinned (.plain (OpenSpec.ofChange serveNilSpec)) serveNilCard

/-- THE SECOND FORM's CARD OF 'posthouselaw30.ServeNil'. -/
def serveNilUptoCard : Claim7 := { stood := { row := serveNilUptoRow, standIns := [], harness := (true, "86971311c1b1f55257d6aa4f7d97692cdf0ddc1179b17742e62ff67c300b9def"), looks := false }, kinds := [], alts := [], laidByText := true, laidKinds := [.data, .pinned], laidTests := true, laidLooks := .later }
def ServeNilUptoCardSaid : Prop := Claim7.holds Tryz.pinned (.plain (OpenSpec.upto serveNilSpec)) serveNilUptoCard
end Rows
end Go.Proofs.YtblikhdllpgeaaaGreatDoor
