/-
  DERIVED. GIVEN WITH THE SEED: THE CARDS: each row of YtmkomefmgcpnbaaGreatDoorRows.lean that lists a variable, with what it lists TIED to the program's text (the seventh form; the later family's looks); each row that meets fmt, with fmt's text TOLD by the authors' own Lean function (tested against real Go, not proved from fmt's source: count such statements apart). THE CARD IS WHAT COUNTS. Prove the row's statement (the work); the ties are given (YtmkomefmgcpnbaaGreatDoorTie.lean); close each card by the builder's one call (the guide's Derived/Test/ToyasCard.lean, 'card_holds'). Laid BY PROGRAM, IN A SANDBOX (cutbox-door.mjs). By AI agents, Wed Nov 11 2026. No macro, syntax, notation, axiom, sorry.
-/
import Derived.Test.YtmkomefmgcpnbaaGreatDoorRows
import GoSem.ClaimSeven
namespace Go.Proofs.YtmkomefmgcpnbaaGreatDoor
namespace Rows

/-- THE TIED CARD OF 'scriptoriumlaw8.ProgramsAccReadsDecks'. -/
def programsAccReadsDecksCard : Claim7 := { stood := { row := programsAccReadsDecksRow, standIns := [], harness := (true, "92e9cccf78b14f274550c7301964c59b4f43ca8a71cdd6a799c9d84b0afc3a1a"), looks := true }, kinds := [], alts := [], laidByText := true, laidKinds := [.data, .data, .data, .widerDeep, .data, .sentinel, .sentinel, .listed, .data, .pinned], laidTests := true, laidLooks := .later }
def ProgramsAccReadsDecksCardSaid : Prop := Claim7.holds Tryz.pinned (.plain (OpenSpec.ofChange programsAccReadsDecksSpec)) programsAccReadsDecksCard
end Rows
end Go.Proofs.YtmkomefmgcpnbaaGreatDoor
