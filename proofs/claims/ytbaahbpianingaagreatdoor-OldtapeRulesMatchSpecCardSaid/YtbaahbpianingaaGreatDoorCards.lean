/-
  DERIVED. GIVEN WITH THE SEED: THE CARDS: each row of YtbaahbpianingaaGreatDoorRows.lean that lists a variable, with what it lists TIED to the program's text (the seventh form; the later family's looks); each row that meets fmt, with fmt's text TOLD by the authors' own Lean function (tested against real Go, not proved from fmt's source: count such statements apart). THE CARD IS WHAT COUNTS. Prove the row's statement (the work); the ties are given (YtbaahbpianingaaGreatDoorTie.lean); close each card by the builder's one call (the guide's Derived/Test/ToyasCard.lean, 'card_holds'). Laid BY PROGRAM, IN A SANDBOX (cutbox-door.mjs). By AI agents, Wed Nov 11 2026. No macro, syntax, notation, axiom, sorry.
-/
import Derived.Test.YtbaahbpianingaaGreatDoorRows
import GoSem.ClaimSeven
namespace Go.Proofs.YtbaahbpianingaaGreatDoor
namespace Rows

/-- THE TIED CARD OF 'scriptoriumlaw8.OldtapeStartMatchesSpec'. -/
def oldtapeStartMatchesSpecCard : Claim7 := { stood := { row := oldtapeStartMatchesSpecRow, standIns := [], harness := (true, "4da6e30fd10960a5b04d6e0cfa7bdc6f6e83d19c929c1e2eea973aac3f2ebb2a"), looks := true }, kinds := [], alts := [], laidByText := true, laidKinds := [.data, .data, .data, .data, .sentinel, .sentinel, .pinned], laidTests := true, laidLooks := .later }
def OldtapeStartMatchesSpecCardSaid : Prop := Claim7.holds Tryz.pinned (.plain (OpenSpec.ofChange oldtapeStartMatchesSpecSpec)) oldtapeStartMatchesSpecCard

/-- THE TIED CARD OF 'scriptoriumlaw8.OldtapeRulesMatchSpec'. -/
def oldtapeRulesMatchSpecCard : Claim7 := { stood := { row := oldtapeRulesMatchSpecRow, standIns := [], harness := (true, "4da6e30fd10960a5b04d6e0cfa7bdc6f6e83d19c929c1e2eea973aac3f2ebb2a"), looks := true }, kinds := [], alts := [], laidByText := true, laidKinds := [.data, .data, .data, .data, .sentinel, .sentinel, .pinned], laidTests := true, laidLooks := .later }
def OldtapeRulesMatchSpecCardSaid : Prop := Claim7.holds Tryz.pinned (.plain (OpenSpec.ofChange oldtapeRulesMatchSpecSpec)) oldtapeRulesMatchSpecCard

/-- THE SECOND FORM's CARD OF 'scriptoriumlaw8.OldtapeStartMatchesSpec'. -/
def oldtapeStartMatchesSpecUptoCard : Claim7 := { stood := { row := oldtapeStartMatchesSpecUptoRow, standIns := [], harness := (true, "4da6e30fd10960a5b04d6e0cfa7bdc6f6e83d19c929c1e2eea973aac3f2ebb2a"), looks := true }, kinds := [], alts := [], laidByText := true, laidKinds := [.data, .data, .data, .data, .sentinel, .sentinel, .pinned], laidTests := true, laidLooks := .later }
def OldtapeStartMatchesSpecUptoCardSaid : Prop := Claim7.holds Tryz.pinned (.plain (OpenSpec.upto oldtapeStartMatchesSpecSpec)) oldtapeStartMatchesSpecUptoCard

/-- THE SECOND FORM's CARD OF 'scriptoriumlaw8.OldtapeRulesMatchSpec'. -/
def oldtapeRulesMatchSpecUptoCard : Claim7 := { stood := { row := oldtapeRulesMatchSpecUptoRow, standIns := [], harness := (true, "4da6e30fd10960a5b04d6e0cfa7bdc6f6e83d19c929c1e2eea973aac3f2ebb2a"), looks := true }, kinds := [], alts := [], laidByText := true, laidKinds := [.data, .data, .data, .data, .sentinel, .sentinel, .pinned], laidTests := true, laidLooks := .later }
def OldtapeRulesMatchSpecUptoCardSaid : Prop := Claim7.holds Tryz.pinned (.plain (OpenSpec.upto oldtapeRulesMatchSpecSpec)) oldtapeRulesMatchSpecUptoCard
end Rows
end Go.Proofs.YtbaahbpianingaaGreatDoor
