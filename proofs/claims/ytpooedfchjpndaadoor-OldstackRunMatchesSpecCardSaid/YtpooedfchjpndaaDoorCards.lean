/-
  DERIVED. GIVEN WITH THE SEED: THE CARDS: each row of YtpooedfchjpndaaDoorRows.lean that lists a variable, with what it lists TIED to the program's text (the seventh form; the later family's looks); each row that meets fmt, with fmt's text TOLD by the authors' own Lean function (tested against real Go, not proved from fmt's source: count such statements apart). THE CARD IS WHAT COUNTS. Prove the row's statement (the work); the ties are given (YtpooedfchjpndaaDoorTie.lean); close each card by the builder's one call (the guide's Derived/Test/ToyasCard.lean, 'card_holds'). Laid BY PROGRAM, IN A SANDBOX (cutbox-door.mjs). By AI agents, Wed Nov 11 2026. No macro, syntax, notation, axiom, sorry.
-/
import Derived.Test.YtpooedfchjpndaaDoorRows
import GoSem.ClaimSeven
namespace Go.Proofs.YtpooedfchjpndaaDoor
namespace Rows

/-- THE TIED CARD OF 'scriptoriumlaw8.OldstackRunMatchesSpec'. -/
def oldstackRunMatchesSpecCard : Claim7 := { stood := { row := oldstackRunMatchesSpecRow, standIns := [], harness := (true, "4a48a52f3bc12b5d3489b7d982a3ab1fbbbe4bb85b8bf8e2c8c2eaa75e01e986"), looks := false }, kinds := [], alts := [], laidByText := true, laidKinds := [.data, .data], laidTests := true, laidLooks := .later }
def OldstackRunMatchesSpecCardSaid : Prop := Claim7.holds Tryd.pinned (.plain (OpenSpec.ofChange oldstackRunMatchesSpecSpec)) oldstackRunMatchesSpecCard

/-- THE TIED CARD OF 'scriptoriumlaw8.OldstackRunsAddUp'. -/
def oldstackRunsAddUpCard : Claim7 := { stood := { row := oldstackRunsAddUpRow, standIns := [], harness := (true, "4a48a52f3bc12b5d3489b7d982a3ab1fbbbe4bb85b8bf8e2c8c2eaa75e01e986"), looks := false }, kinds := [], alts := [], laidByText := true, laidKinds := [.data, .data], laidTests := true, laidLooks := .later }
def OldstackRunsAddUpCardSaid : Prop := Claim7.holds Tryd.pinned (.plain (OpenSpec.ofChange oldstackRunsAddUpSpec)) oldstackRunsAddUpCard

/-- THE TIED CARD OF 'scriptoriumlaw8.OldstackStopsChangeNothing'. -/
def oldstackStopsChangeNothingCard : Claim7 := { stood := { row := oldstackStopsChangeNothingRow, standIns := [], harness := (true, "4a48a52f3bc12b5d3489b7d982a3ab1fbbbe4bb85b8bf8e2c8c2eaa75e01e986"), looks := false }, kinds := [], alts := [], laidByText := true, laidKinds := [.data, .data], laidTests := true, laidLooks := .later }
def OldstackStopsChangeNothingCardSaid : Prop := Claim7.holds Tryd.pinned (.plain (OpenSpec.ofChange oldstackStopsChangeNothingSpec)) oldstackStopsChangeNothingCard

/-- THE TIED CARD OF 'scriptoriumlaw8.OldstackStreamsGoOn'. -/
def oldstackStreamsGoOnCard : Claim7 := { stood := { row := oldstackStreamsGoOnRow, standIns := [], harness := (true, "4a48a52f3bc12b5d3489b7d982a3ab1fbbbe4bb85b8bf8e2c8c2eaa75e01e986"), looks := false }, kinds := [], alts := [], laidByText := true, laidKinds := [.data, .data], laidTests := true, laidLooks := .later }
def OldstackStreamsGoOnCardSaid : Prop := Claim7.holds Tryd.pinned (.plain (OpenSpec.ofChange oldstackStreamsGoOnSpec)) oldstackStreamsGoOnCard

/-- THE SECOND FORM's CARD OF 'scriptoriumlaw8.OldstackRunMatchesSpec'. -/
def oldstackRunMatchesSpecUptoCard : Claim7 := { stood := { row := oldstackRunMatchesSpecUptoRow, standIns := [], harness := (true, "4a48a52f3bc12b5d3489b7d982a3ab1fbbbe4bb85b8bf8e2c8c2eaa75e01e986"), looks := false }, kinds := [], alts := [], laidByText := true, laidKinds := [.data, .data], laidTests := true, laidLooks := .later }
def OldstackRunMatchesSpecUptoCardSaid : Prop := Claim7.holds Tryd.pinned (.plain (OpenSpec.upto oldstackRunMatchesSpecSpec)) oldstackRunMatchesSpecUptoCard

/-- THE SECOND FORM's CARD OF 'scriptoriumlaw8.OldstackRunsAddUp'. -/
def oldstackRunsAddUpUptoCard : Claim7 := { stood := { row := oldstackRunsAddUpUptoRow, standIns := [], harness := (true, "4a48a52f3bc12b5d3489b7d982a3ab1fbbbe4bb85b8bf8e2c8c2eaa75e01e986"), looks := false }, kinds := [], alts := [], laidByText := true, laidKinds := [.data, .data], laidTests := true, laidLooks := .later }
def OldstackRunsAddUpUptoCardSaid : Prop := Claim7.holds Tryd.pinned (.plain (OpenSpec.upto oldstackRunsAddUpSpec)) oldstackRunsAddUpUptoCard

/-- THE SECOND FORM's CARD OF 'scriptoriumlaw8.OldstackStopsChangeNothing'. -/
def oldstackStopsChangeNothingUptoCard : Claim7 := { stood := { row := oldstackStopsChangeNothingUptoRow, standIns := [], harness := (true, "4a48a52f3bc12b5d3489b7d982a3ab1fbbbe4bb85b8bf8e2c8c2eaa75e01e986"), looks := false }, kinds := [], alts := [], laidByText := true, laidKinds := [.data, .data], laidTests := true, laidLooks := .later }
def OldstackStopsChangeNothingUptoCardSaid : Prop := Claim7.holds Tryd.pinned (.plain (OpenSpec.upto oldstackStopsChangeNothingSpec)) oldstackStopsChangeNothingUptoCard

/-- THE SECOND FORM's CARD OF 'scriptoriumlaw8.OldstackStreamsGoOn'. -/
def oldstackStreamsGoOnUptoCard : Claim7 := { stood := { row := oldstackStreamsGoOnUptoRow, standIns := [], harness := (true, "4a48a52f3bc12b5d3489b7d982a3ab1fbbbe4bb85b8bf8e2c8c2eaa75e01e986"), looks := false }, kinds := [], alts := [], laidByText := true, laidKinds := [.data, .data], laidTests := true, laidLooks := .later }
def OldstackStreamsGoOnUptoCardSaid : Prop := Claim7.holds Tryd.pinned (.plain (OpenSpec.upto oldstackStreamsGoOnSpec)) oldstackStreamsGoOnUptoCard
end Rows
end Go.Proofs.YtpooedfchjpndaaDoor
