/-
  DERIVED. GIVEN WITH THE SEED: THE CARDS: each row of YtmkpglabiikdeaaGreatDoorRows.lean that lists a variable, with what it lists TIED to the program's text (the seventh form; the later family's looks); each row that meets fmt, with fmt's text TOLD by the authors' own Lean function (tested against real Go, not proved from fmt's source: count such statements apart). THE CARD IS WHAT COUNTS. Prove the row's statement (the work); the ties are given (YtmkpglabiikdeaaGreatDoorTie.lean); close each card by the builder's one call (the guide's Derived/Test/ToyasCard.lean, 'card_holds'). Laid BY PROGRAM, IN A SANDBOX (cutbox-door.mjs). By AI agents, Wed Nov 11 2026. No macro, syntax, notation, axiom, sorry.
-/
import Derived.Test.YtmkpglabiikdeaaGreatDoorRows
import GoSem.ClaimSeven
namespace Go.Proofs.YtmkpglabiikdeaaGreatDoor
namespace Rows

/-- THE TIED CARD OF 'posthouselaw11.PiecePuts'. -/
def piecePutsCard : Claim7 := { stood := { row := piecePutsRow, standIns := [], harness := (true, "101cedbe945bd2b5e80014f2110ad57a31b33b31deb9c81ebc5d96fb906ae8f7"), looks := false }, kinds := [], alts := [], laidByText := true, laidKinds := [.data, .pinned], laidTests := true, laidLooks := .later }
def PiecePutsCardSaid : Prop := Claim7.holds Tryz.pinned (.plain (OpenSpec.ofChange piecePutsSpec)) piecePutsCard

/-- THE TIED CARD OF 'posthouselaw11.PieceGets'. -/
def pieceGetsCard : Claim7 := { stood := { row := pieceGetsRow, standIns := [], harness := (true, "101cedbe945bd2b5e80014f2110ad57a31b33b31deb9c81ebc5d96fb906ae8f7"), looks := false }, kinds := [], alts := [], laidByText := true, laidKinds := [.data, .pinned], laidTests := true, laidLooks := .later }
def PieceGetsCardSaid : Prop := Claim7.holds Tryz.pinned (.plain (OpenSpec.ofChange pieceGetsSpec)) pieceGetsCard

/-- THE TIED CARD OF 'posthouselaw12.RingOpens'. -/
def ringOpensCard : Claim7 := { stood := { row := ringOpensRow, standIns := [], harness := (true, "101cedbe945bd2b5e80014f2110ad57a31b33b31deb9c81ebc5d96fb906ae8f7"), looks := false }, kinds := [], alts := [], laidByText := true, laidKinds := [.data, .pinned], laidTests := true, laidLooks := .later }
def RingOpensCardSaid : Prop := Claim7.holds Tryz.pinned (.plain (OpenSpec.ofChange ringOpensSpec)) ringOpensCard

/-- THE TIED CARD OF 'posthouselaw12.RingNil'. -/
def ringNilCard : Claim7 := { stood := { row := ringNilRow, standIns := [], harness := (true, "101cedbe945bd2b5e80014f2110ad57a31b33b31deb9c81ebc5d96fb906ae8f7"), looks := false }, kinds := [], alts := [], laidByText := true, laidKinds := [.data, .pinned], laidTests := true, laidLooks := .later }
def RingNilCardSaid : Prop := Claim7.holds Tryz.pinned (.plain (OpenSpec.ofChange ringNilSpec)) ringNilCard

/-- THE TIED CARD OF 'posthouselaw12.RingFinds'. -/
def ringFindsCard : Claim7 := { stood := { row := ringFindsRow, standIns := [], harness := (true, "101cedbe945bd2b5e80014f2110ad57a31b33b31deb9c81ebc5d96fb906ae8f7"), looks := false }, kinds := [], alts := [], laidByText := true, laidKinds := [.data, .pinned], laidTests := true, laidLooks := .later }
def RingFindsCardSaid : Prop := Claim7.holds Tryz.pinned (.plain (OpenSpec.ofChange ringFindsSpec)) ringFindsCard

/-- THE TIED CARD OF 'posthouselaw12.RingPlays'. -/
def ringPlaysCard : Claim7 := { stood := { row := ringPlaysRow, standIns := [], harness := (true, "101cedbe945bd2b5e80014f2110ad57a31b33b31deb9c81ebc5d96fb906ae8f7"), looks := false }, kinds := [], alts := [], laidByText := true, laidKinds := [.data, .pinned], laidTests := true, laidLooks := .later }
def RingPlaysCardSaid : Prop := Claim7.holds Tryz.pinned (.plain (OpenSpec.ofChange ringPlaysSpec)) ringPlaysCard

/-- THE SECOND FORM's CARD OF 'posthouselaw11.PiecePuts'. -/
def piecePutsUptoCard : Claim7 := { stood := { row := piecePutsUptoRow, standIns := [], harness := (true, "101cedbe945bd2b5e80014f2110ad57a31b33b31deb9c81ebc5d96fb906ae8f7"), looks := false }, kinds := [], alts := [], laidByText := true, laidKinds := [.data, .pinned], laidTests := true, laidLooks := .later }
def PiecePutsUptoCardSaid : Prop := Claim7.holds Tryz.pinned (.plain (OpenSpec.upto piecePutsSpec)) piecePutsUptoCard

/-- THE SECOND FORM's CARD OF 'posthouselaw11.PieceGets'. -/
def pieceGetsUptoCard : Claim7 := { stood := { row := pieceGetsUptoRow, standIns := [], harness := (true, "101cedbe945bd2b5e80014f2110ad57a31b33b31deb9c81ebc5d96fb906ae8f7"), looks := false }, kinds := [], alts := [], laidByText := true, laidKinds := [.data, .pinned], laidTests := true, laidLooks := .later }
def PieceGetsUptoCardSaid : Prop := Claim7.holds Tryz.pinned (.plain (OpenSpec.upto pieceGetsSpec)) pieceGetsUptoCard

/-- THE SECOND FORM's CARD OF 'posthouselaw12.RingOpens'. -/
def ringOpensUptoCard : Claim7 := { stood := { row := ringOpensUptoRow, standIns := [], harness := (true, "101cedbe945bd2b5e80014f2110ad57a31b33b31deb9c81ebc5d96fb906ae8f7"), looks := false }, kinds := [], alts := [], laidByText := true, laidKinds := [.data, .pinned], laidTests := true, laidLooks := .later }
def RingOpensUptoCardSaid : Prop := Claim7.holds Tryz.pinned (.plain (OpenSpec.upto ringOpensSpec)) ringOpensUptoCard

/-- THE SECOND FORM's CARD OF 'posthouselaw12.RingNil'. -/
def ringNilUptoCard : Claim7 := { stood := { row := ringNilUptoRow, standIns := [], harness := (true, "101cedbe945bd2b5e80014f2110ad57a31b33b31deb9c81ebc5d96fb906ae8f7"), looks := false }, kinds := [], alts := [], laidByText := true, laidKinds := [.data, .pinned], laidTests := true, laidLooks := .later }
def RingNilUptoCardSaid : Prop := Claim7.holds Tryz.pinned (.plain (OpenSpec.upto ringNilSpec)) ringNilUptoCard

/-- THE SECOND FORM's CARD OF 'posthouselaw12.RingFinds'. -/
def ringFindsUptoCard : Claim7 := { stood := { row := ringFindsUptoRow, standIns := [], harness := (true, "101cedbe945bd2b5e80014f2110ad57a31b33b31deb9c81ebc5d96fb906ae8f7"), looks := false }, kinds := [], alts := [], laidByText := true, laidKinds := [.data, .pinned], laidTests := true, laidLooks := .later }
def RingFindsUptoCardSaid : Prop := Claim7.holds Tryz.pinned (.plain (OpenSpec.upto ringFindsSpec)) ringFindsUptoCard

/-- THE SECOND FORM's CARD OF 'posthouselaw12.RingPlays'. -/
def ringPlaysUptoCard : Claim7 := { stood := { row := ringPlaysUptoRow, standIns := [], harness := (true, "101cedbe945bd2b5e80014f2110ad57a31b33b31deb9c81ebc5d96fb906ae8f7"), looks := false }, kinds := [], alts := [], laidByText := true, laidKinds := [.data, .pinned], laidTests := true, laidLooks := .later }
def RingPlaysUptoCardSaid : Prop := Claim7.holds Tryz.pinned (.plain (OpenSpec.upto ringPlaysSpec)) ringPlaysUptoCard
end Rows
end Go.Proofs.YtmkpglabiikdeaaGreatDoor
