/-
  DERIVED. GIVEN WITH THE SEED: THE CARDS: each row of YtbaahbpianingaaDoorRows.lean that lists a variable, with what it lists TIED to the program's text (the seventh form; the later family's looks); each row that meets fmt, with fmt's text TOLD by the authors' own Lean function (tested against real Go, not proved from fmt's source: count such statements apart). THE CARD IS WHAT COUNTS. Prove the row's statement (the work); the ties are given (YtbaahbpianingaaDoorTie.lean); close each card by the builder's one call (the guide's Derived/Test/ToyasCard.lean, 'card_holds'). Laid BY PROGRAM, IN A SANDBOX (cutbox-door.mjs). By AI agents, Wed Nov 11 2026. No macro, syntax, notation, axiom, sorry.
-/
import Derived.Test.YtbaahbpianingaaDoorRows
import GoSem.ClaimSeven
namespace Go.Proofs.YtbaahbpianingaaDoor
namespace Rows

/-- THE TIED CARD OF 'scriptoriumlaw8.OldaccRunMatchesSpec'. -/
def oldaccRunMatchesSpecCard : Claim7 := { stood := { row := oldaccRunMatchesSpecRow, standIns := [], harness := (true, "f77f75c0d6d7878f494d20b82a909ca01b7308ef2e85387fda2355410c487f94"), looks := true }, kinds := [], alts := [], laidByText := true, laidKinds := [.data, .data, .data], laidTests := true, laidLooks := .later }
def OldaccRunMatchesSpecCardSaid : Prop := Claim7.holds Tryd.pinned (.plain (OpenSpec.ofChange oldaccRunMatchesSpecSpec)) oldaccRunMatchesSpecCard

/-- THE TIED CARD OF 'scriptoriumlaw8.OldaccRunsStayValid'. -/
def oldaccRunsStayValidCard : Claim7 := { stood := { row := oldaccRunsStayValidRow, standIns := [], harness := (true, "f77f75c0d6d7878f494d20b82a909ca01b7308ef2e85387fda2355410c487f94"), looks := true }, kinds := [], alts := [], laidByText := true, laidKinds := [.data, .data, .data], laidTests := true, laidLooks := .later }
def OldaccRunsStayValidCardSaid : Prop := Claim7.holds Tryd.pinned (.plain (OpenSpec.ofChange oldaccRunsStayValidSpec)) oldaccRunsStayValidCard

/-- THE TIED CARD OF 'scriptoriumlaw8.OldaccProductsAreWhole'. -/
def oldaccProductsAreWholeCard : Claim7 := { stood := { row := oldaccProductsAreWholeRow, standIns := [], harness := (true, "f77f75c0d6d7878f494d20b82a909ca01b7308ef2e85387fda2355410c487f94"), looks := true }, kinds := [], alts := [], laidByText := true, laidKinds := [.data, .data, .data], laidTests := true, laidLooks := .later }
def OldaccProductsAreWholeCardSaid : Prop := Claim7.holds Tryd.pinned (.plain (OpenSpec.ofChange oldaccProductsAreWholeSpec)) oldaccProductsAreWholeCard

/-- THE TIED CARD OF 'scriptoriumlaw8.OldaccDecksMatchSpec'. -/
def oldaccDecksMatchSpecCard : Claim7 := { stood := { row := oldaccDecksMatchSpecRow, standIns := [], harness := (true, "f77f75c0d6d7878f494d20b82a909ca01b7308ef2e85387fda2355410c487f94"), looks := true }, kinds := [], alts := [], laidByText := true, laidKinds := [.data, .data, .data], laidTests := true, laidLooks := .later }
def OldaccDecksMatchSpecCardSaid : Prop := Claim7.holds Tryd.pinned (.plain (OpenSpec.ofChange oldaccDecksMatchSpecSpec)) oldaccDecksMatchSpecCard

/-- THE TIED CARD OF 'scriptoriumlaw8.OldaccDecksAreReadAgain'. -/
def oldaccDecksAreReadAgainCard : Claim7 := { stood := { row := oldaccDecksAreReadAgainRow, standIns := [], harness := (true, "f77f75c0d6d7878f494d20b82a909ca01b7308ef2e85387fda2355410c487f94"), looks := true }, kinds := [], alts := [], laidByText := true, laidKinds := [.data, .data, .data], laidTests := true, laidLooks := .later }
def OldaccDecksAreReadAgainCardSaid : Prop := Claim7.holds Tryd.pinned (.plain (OpenSpec.ofChange oldaccDecksAreReadAgainSpec)) oldaccDecksAreReadAgainCard

/-- THE TIED CARD OF 'scriptoriumlaw8.OldtapeRunMatchesSpec'. -/
def oldtapeRunMatchesSpecCard : Claim7 := { stood := { row := oldtapeRunMatchesSpecRow, standIns := [], harness := (true, "f77f75c0d6d7878f494d20b82a909ca01b7308ef2e85387fda2355410c487f94"), looks := true }, kinds := [], alts := [], laidByText := true, laidKinds := [.data, .data, .data, .data, .sentinel, .sentinel, .pinned], laidTests := true, laidLooks := .later }
def OldtapeRunMatchesSpecCardSaid : Prop := Claim7.holds Tryd.pinned (.plain (OpenSpec.ofChange oldtapeRunMatchesSpecSpec)) oldtapeRunMatchesSpecCard

/-- THE TIED CARD OF 'scriptoriumlaw8.OldtapeRulesAreReadAgain'. -/
def oldtapeRulesAreReadAgainCard : Claim7 := { stood := { row := oldtapeRulesAreReadAgainRow, standIns := [], harness := (true, "f77f75c0d6d7878f494d20b82a909ca01b7308ef2e85387fda2355410c487f94"), looks := true }, kinds := [], alts := [], laidByText := true, laidKinds := [.data, .data, .data, .data, .sentinel, .sentinel, .pinned], laidTests := true, laidLooks := .later }
def OldtapeRulesAreReadAgainCardSaid : Prop := Claim7.holds Tryd.pinned (.plain (OpenSpec.ofChange oldtapeRulesAreReadAgainSpec)) oldtapeRulesAreReadAgainCard

/-- THE TIED CARD OF 'scriptoriumlaw8.OldtapeMirrorsRunAlike'. -/
def oldtapeMirrorsRunAlikeCard : Claim7 := { stood := { row := oldtapeMirrorsRunAlikeRow, standIns := [], harness := (true, "f77f75c0d6d7878f494d20b82a909ca01b7308ef2e85387fda2355410c487f94"), looks := true }, kinds := [], alts := [], laidByText := true, laidKinds := [.data, .data, .data, .data, .sentinel, .sentinel, .pinned], laidTests := true, laidLooks := .later }
def OldtapeMirrorsRunAlikeCardSaid : Prop := Claim7.holds Tryd.pinned (.plain (OpenSpec.ofChange oldtapeMirrorsRunAlikeSpec)) oldtapeMirrorsRunAlikeCard

/-- THE TIED CARD OF 'scriptoriumlaw8.OldtapeBlanksDoNotMatter'. -/
def oldtapeBlanksDoNotMatterCard : Claim7 := { stood := { row := oldtapeBlanksDoNotMatterRow, standIns := [], harness := (true, "f77f75c0d6d7878f494d20b82a909ca01b7308ef2e85387fda2355410c487f94"), looks := true }, kinds := [], alts := [], laidByText := true, laidKinds := [.data, .data, .data, .data, .sentinel, .sentinel, .pinned], laidTests := true, laidLooks := .later }
def OldtapeBlanksDoNotMatterCardSaid : Prop := Claim7.holds Tryd.pinned (.plain (OpenSpec.ofChange oldtapeBlanksDoNotMatterSpec)) oldtapeBlanksDoNotMatterCard

/-- THE SECOND FORM's CARD OF 'scriptoriumlaw8.OldaccRunMatchesSpec'. -/
def oldaccRunMatchesSpecUptoCard : Claim7 := { stood := { row := oldaccRunMatchesSpecUptoRow, standIns := [], harness := (true, "f77f75c0d6d7878f494d20b82a909ca01b7308ef2e85387fda2355410c487f94"), looks := true }, kinds := [], alts := [], laidByText := true, laidKinds := [.data, .data, .data], laidTests := true, laidLooks := .later }
def OldaccRunMatchesSpecUptoCardSaid : Prop := Claim7.holds Tryd.pinned (.plain (OpenSpec.upto oldaccRunMatchesSpecSpec)) oldaccRunMatchesSpecUptoCard

/-- THE SECOND FORM's CARD OF 'scriptoriumlaw8.OldaccRunsStayValid'. -/
def oldaccRunsStayValidUptoCard : Claim7 := { stood := { row := oldaccRunsStayValidUptoRow, standIns := [], harness := (true, "f77f75c0d6d7878f494d20b82a909ca01b7308ef2e85387fda2355410c487f94"), looks := true }, kinds := [], alts := [], laidByText := true, laidKinds := [.data, .data, .data], laidTests := true, laidLooks := .later }
def OldaccRunsStayValidUptoCardSaid : Prop := Claim7.holds Tryd.pinned (.plain (OpenSpec.upto oldaccRunsStayValidSpec)) oldaccRunsStayValidUptoCard

/-- THE SECOND FORM's CARD OF 'scriptoriumlaw8.OldaccProductsAreWhole'. -/
def oldaccProductsAreWholeUptoCard : Claim7 := { stood := { row := oldaccProductsAreWholeUptoRow, standIns := [], harness := (true, "f77f75c0d6d7878f494d20b82a909ca01b7308ef2e85387fda2355410c487f94"), looks := true }, kinds := [], alts := [], laidByText := true, laidKinds := [.data, .data, .data], laidTests := true, laidLooks := .later }
def OldaccProductsAreWholeUptoCardSaid : Prop := Claim7.holds Tryd.pinned (.plain (OpenSpec.upto oldaccProductsAreWholeSpec)) oldaccProductsAreWholeUptoCard

/-- THE SECOND FORM's CARD OF 'scriptoriumlaw8.OldaccDecksMatchSpec'. -/
def oldaccDecksMatchSpecUptoCard : Claim7 := { stood := { row := oldaccDecksMatchSpecUptoRow, standIns := [], harness := (true, "f77f75c0d6d7878f494d20b82a909ca01b7308ef2e85387fda2355410c487f94"), looks := true }, kinds := [], alts := [], laidByText := true, laidKinds := [.data, .data, .data], laidTests := true, laidLooks := .later }
def OldaccDecksMatchSpecUptoCardSaid : Prop := Claim7.holds Tryd.pinned (.plain (OpenSpec.upto oldaccDecksMatchSpecSpec)) oldaccDecksMatchSpecUptoCard

/-- THE SECOND FORM's CARD OF 'scriptoriumlaw8.OldaccDecksAreReadAgain'. -/
def oldaccDecksAreReadAgainUptoCard : Claim7 := { stood := { row := oldaccDecksAreReadAgainUptoRow, standIns := [], harness := (true, "f77f75c0d6d7878f494d20b82a909ca01b7308ef2e85387fda2355410c487f94"), looks := true }, kinds := [], alts := [], laidByText := true, laidKinds := [.data, .data, .data], laidTests := true, laidLooks := .later }
def OldaccDecksAreReadAgainUptoCardSaid : Prop := Claim7.holds Tryd.pinned (.plain (OpenSpec.upto oldaccDecksAreReadAgainSpec)) oldaccDecksAreReadAgainUptoCard

/-- THE SECOND FORM's CARD OF 'scriptoriumlaw8.OldtapeRunMatchesSpec'. -/
def oldtapeRunMatchesSpecUptoCard : Claim7 := { stood := { row := oldtapeRunMatchesSpecUptoRow, standIns := [], harness := (true, "f77f75c0d6d7878f494d20b82a909ca01b7308ef2e85387fda2355410c487f94"), looks := true }, kinds := [], alts := [], laidByText := true, laidKinds := [.data, .data, .data, .data, .sentinel, .sentinel, .pinned], laidTests := true, laidLooks := .later }
def OldtapeRunMatchesSpecUptoCardSaid : Prop := Claim7.holds Tryd.pinned (.plain (OpenSpec.upto oldtapeRunMatchesSpecSpec)) oldtapeRunMatchesSpecUptoCard

/-- THE SECOND FORM's CARD OF 'scriptoriumlaw8.OldtapeRulesAreReadAgain'. -/
def oldtapeRulesAreReadAgainUptoCard : Claim7 := { stood := { row := oldtapeRulesAreReadAgainUptoRow, standIns := [], harness := (true, "f77f75c0d6d7878f494d20b82a909ca01b7308ef2e85387fda2355410c487f94"), looks := true }, kinds := [], alts := [], laidByText := true, laidKinds := [.data, .data, .data, .data, .sentinel, .sentinel, .pinned], laidTests := true, laidLooks := .later }
def OldtapeRulesAreReadAgainUptoCardSaid : Prop := Claim7.holds Tryd.pinned (.plain (OpenSpec.upto oldtapeRulesAreReadAgainSpec)) oldtapeRulesAreReadAgainUptoCard

/-- THE SECOND FORM's CARD OF 'scriptoriumlaw8.OldtapeMirrorsRunAlike'. -/
def oldtapeMirrorsRunAlikeUptoCard : Claim7 := { stood := { row := oldtapeMirrorsRunAlikeUptoRow, standIns := [], harness := (true, "f77f75c0d6d7878f494d20b82a909ca01b7308ef2e85387fda2355410c487f94"), looks := true }, kinds := [], alts := [], laidByText := true, laidKinds := [.data, .data, .data, .data, .sentinel, .sentinel, .pinned], laidTests := true, laidLooks := .later }
def OldtapeMirrorsRunAlikeUptoCardSaid : Prop := Claim7.holds Tryd.pinned (.plain (OpenSpec.upto oldtapeMirrorsRunAlikeSpec)) oldtapeMirrorsRunAlikeUptoCard

/-- THE SECOND FORM's CARD OF 'scriptoriumlaw8.OldtapeBlanksDoNotMatter'. -/
def oldtapeBlanksDoNotMatterUptoCard : Claim7 := { stood := { row := oldtapeBlanksDoNotMatterUptoRow, standIns := [], harness := (true, "f77f75c0d6d7878f494d20b82a909ca01b7308ef2e85387fda2355410c487f94"), looks := true }, kinds := [], alts := [], laidByText := true, laidKinds := [.data, .data, .data, .data, .sentinel, .sentinel, .pinned], laidTests := true, laidLooks := .later }
def OldtapeBlanksDoNotMatterUptoCardSaid : Prop := Claim7.holds Tryd.pinned (.plain (OpenSpec.upto oldtapeBlanksDoNotMatterSpec)) oldtapeBlanksDoNotMatterUptoCard
end Rows
end Go.Proofs.YtbaahbpianingaaDoor
