/-
  DERIVED. GIVEN WITH THE SEED: THE CARDS: each row of YtmnmdlmmeldiiaaGreatDoorRows.lean that lists a variable, with what it lists TIED to the program's text (the seventh form; the later family's looks); each row that meets fmt, with fmt's text TOLD by the authors' own Lean function (tested against real Go, not proved from fmt's source: count such statements apart). THE CARD IS WHAT COUNTS. Prove the row's statement (the work); the ties are given (YtmnmdlmmeldiiaaGreatDoorTie.lean); close each card by the builder's one call (the guide's Derived/Test/ToyasCard.lean, 'card_holds'). Laid BY PROGRAM, IN A SANDBOX (cutbox-door.mjs). By AI agents, Wed Nov 11 2026. No macro, syntax, notation, axiom, sorry.
-/
import Derived.Test.YtmnmdlmmeldiiaaGreatDoorRows
import GoSem.ClaimSeven
namespace Go.Proofs.YtmnmdlmmeldiiaaGreatDoor
namespace Rows

/-- THE TIED CARD OF 'posthouselaw32.ProxyNil'. -/
def proxyNilCard : Claim7 := { stood := { row := proxyNilRow, standIns := [], harness := (true, "636062b536ccd1a7bf93014de6b91c337b34c8b014063f530c5bacc5fc2e50b5"), looks := true }, kinds := [], alts := [], laidByText := true, laidKinds := [.pinned, .data, .data], laidTests := true, laidLooks := .later }
def ProxyNilCardSaid : Prop := Claim7.holds Tryz.pinned (.plain (OpenSpec.ofChange proxyNilSpec)) proxyNilCard

/-- THE SECOND FORM's CARD OF 'posthouselaw32.ProxyNil'. -/
def proxyNilUptoCard : Claim7 := { stood := { row := proxyNilUptoRow, standIns := [], harness := (true, "636062b536ccd1a7bf93014de6b91c337b34c8b014063f530c5bacc5fc2e50b5"), looks := true }, kinds := [], alts := [], laidByText := true, laidKinds := [.pinned, .data, .data], laidTests := true, laidLooks := .later }
def ProxyNilUptoCardSaid : Prop := Claim7.holds Tryz.pinned (.plain (OpenSpec.upto proxyNilSpec)) proxyNilUptoCard
end Rows
end Go.Proofs.YtmnmdlmmeldiiaaGreatDoor
