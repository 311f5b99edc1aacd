/-
  DERIVED. GIVEN WITH THE SEED: THE CARDS: each row of YtjmfclhilmmamaaGreatDoorRows.lean that lists a variable, with what it lists TIED to the program's text (the seventh form; the later family's looks); each row that meets fmt, with fmt's text TOLD by the authors' own Lean function (tested against real Go, not proved from fmt's source: count such statements apart). THE CARD IS WHAT COUNTS. Prove the row's statement (the work); the ties are given (YtjmfclhilmmamaaGreatDoorTie.lean); close each card by the builder's one call (the guide's Derived/Test/ToyasCard.lean, 'card_holds'). Laid BY PROGRAM, IN A SANDBOX (cutbox-door.mjs). By AI agents, Wed Nov 11 2026. No macro, syntax, notation, axiom, sorry.
-/
import Derived.Test.YtjmfclhilmmamaaGreatDoorRows
import GoSem.ClaimSeven
namespace Go.Proofs.YtjmfclhilmmamaaGreatDoor
namespace Rows

/-- THE TIED CARD OF 'posthouselaw28.ShelfKeys'. -/
def shelfKeysCard : Claim7 := { stood := { row := shelfKeysRow, standIns := [], harness := (true, "a23c93c9e6b0ced04ea40ffabb2c7a8e0d22ddf0d1594c5d1580fcda2a11002e"), looks := false }, kinds := [], alts := [], laidByText := true, laidKinds := [.data, .pinned], laidTests := true, laidLooks := .later }
def ShelfKeysCardSaid : Prop := Claim7.holds Tryz.pinned (.plain (OpenSpec.ofChange shelfKeysSpec)) shelfKeysCard

/-- THE TIED CARD OF 'posthouselaw28.ShelfNil'. -/
def shelfNilCard : Claim7 := { stood := { row := shelfNilRow, standIns := [], harness := (true, "a23c93c9e6b0ced04ea40ffabb2c7a8e0d22ddf0d1594c5d1580fcda2a11002e"), looks := false }, kinds := [], alts := [], laidByText := true, laidKinds := [.data, .pinned], laidTests := true, laidLooks := .later }
def ShelfNilCardSaid : Prop := Claim7.holds Tryz.pinned (.plain (OpenSpec.ofChange shelfNilSpec)) shelfNilCard

/-- THE SECOND FORM's CARD OF 'posthouselaw28.ShelfKeys'. -/
def shelfKeysUptoCard : Claim7 := { stood := { row := shelfKeysUptoRow, standIns := [], harness := (true, "a23c93c9e6b0ced04ea40ffabb2c7a8e0d22ddf0d1594c5d1580fcda2a11002e"), looks := false }, kinds := [], alts := [], laidByText := true, laidKinds := [.data, .pinned], laidTests := true, laidLooks := .later }
def ShelfKeysUptoCardSaid : Prop := Claim7.holds Tryz.pinned (.plain (OpenSpec.upto shelfKeysSpec)) shelfKeysUptoCard

/-- THE SECOND FORM's CARD OF 'posthouselaw28.ShelfNil'. -/
def shelfNilUptoCard : Claim7 := { stood := { row := shelfNilUptoRow, standIns := [], harness := (true, "a23c93c9e6b0ced04ea40ffabb2c7a8e0d22ddf0d1594c5d1580fcda2a11002e"), looks := false }, kinds := [], alts := [], laidByText := true, laidKinds := [.data, .pinned], laidTests := true, laidLooks := .later }
def ShelfNilUptoCardSaid : Prop := Claim7.holds Tryz.pinned (.plain (OpenSpec.upto shelfNilSpec)) shelfNilUptoCard
end Rows
end Go.Proofs.YtjmfclhilmmamaaGreatDoor
