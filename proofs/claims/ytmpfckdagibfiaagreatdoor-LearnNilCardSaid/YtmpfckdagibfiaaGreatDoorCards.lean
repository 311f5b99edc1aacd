/-
  DERIVED. GIVEN WITH THE SEED: THE CARDS: each row of YtmpfckdagibfiaaGreatDoorRows.lean that lists a variable, with what it lists TIED to the program's text (the seventh form; the later family's looks); each row that meets fmt, with fmt's text TOLD by the authors' own Lean function (tested against real Go, not proved from fmt's source: count such statements apart). THE CARD IS WHAT COUNTS. Prove the row's statement (the work); the ties are given (YtmpfckdagibfiaaGreatDoorTie.lean); close each card by the builder's one call (the guide's Derived/Test/ToyasCard.lean, 'card_holds'). Laid BY PROGRAM, IN A SANDBOX (cutbox-door.mjs). By AI agents, Wed Nov 11 2026. No macro, syntax, notation, axiom, sorry.
-/
import Derived.Test.YtmpfckdagibfiaaGreatDoorRows
import GoSem.ClaimSeven
namespace Go.Proofs.YtmpfckdagibfiaaGreatDoor
namespace Rows

/-- THE TIED CARD OF 'posthouselaw31.LearnNil'. -/
def learnNilCard : Claim7 := { stood := { row := learnNilRow, standIns := [], harness := (true, "297cf06121cae986a48c58b8738cc7e70ee5c1bb696e7338ee55f9c895dc01a2"), looks := false }, kinds := [], alts := [], laidByText := true, laidKinds := [.data, .pinned], laidTests := true, laidLooks := .later }
def LearnNilCardSaid : Prop := Claim7.holds Tryz.pinned (.plain (OpenSpec.ofChange learnNilSpec)) learnNilCard

/-- THE SECOND FORM's CARD OF 'posthouselaw31.LearnNil'. -/
def learnNilUptoCard : Claim7 := { stood := { row := learnNilUptoRow, standIns := [], harness := (true, "297cf06121cae986a48c58b8738cc7e70ee5c1bb696e7338ee55f9c895dc01a2"), looks := false }, kinds := [], alts := [], laidByText := true, laidKinds := [.data, .pinned], laidTests := true, laidLooks := .later }
def LearnNilUptoCardSaid : Prop := Claim7.holds Tryz.pinned (.plain (OpenSpec.upto learnNilSpec)) learnNilUptoCard
end Rows
end Go.Proofs.YtmpfckdagibfiaaGreatDoor
