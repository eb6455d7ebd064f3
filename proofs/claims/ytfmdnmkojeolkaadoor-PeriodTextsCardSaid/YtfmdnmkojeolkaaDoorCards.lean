/-
  DERIVED. GIVEN WITH THE SEED: THE CARDS: each row of YtfmdnmkojeolkaaDoorRows.lean that lists a variable, with what it lists TIED to the program's text (the seventh form; the later family's looks); each row that meets fmt, with fmt's text TOLD by the authors' own Lean function (tested against real Go, not proved from fmt's source: count such statements apart). THE CARD IS WHAT COUNTS. Prove the row's statement (the work); the ties are given (YtfmdnmkojeolkaaDoorTie.lean); close each card by the builder's one call (the guide's Derived/Test/ToyasCard.lean, 'card_holds'). Laid BY PROGRAM, IN A SANDBOX (cutbox-door.mjs). By AI agents, Wed Nov 11 2026. No macro, syntax, notation, axiom, sorry.
-/
import Derived.Test.YtfmdnmkojeolkaaDoorRows
import GoSem.ClaimSeven
namespace Go.Proofs.YtfmdnmkojeolkaaDoor
namespace Rows

/-- THE TIED CARD OF 'airlinelaw03.CalendarDays'. -/
def calendarDaysCard : Claim7 := { stood := { row := calendarDaysRow, standIns := [], harness := (true, "fffd9e00188a38b8c6cca6ff7a87c626b61f6a15c09ab4df637cd92d0d050ecd"), looks := false }, kinds := [], alts := [], laidByText := true, laidKinds := [.data], laidTests := true, laidLooks := .later }
def CalendarDaysCardSaid : Prop := Claim7.holds Tryd.pinned (.plain (OpenSpec.ofChange calendarDaysSpec)) calendarDaysCard

/-- THE TIED CARD OF 'airlinelaw03.CalendarDates'. -/
def calendarDatesCard : Claim7 := { stood := { row := calendarDatesRow, standIns := [], harness := (true, "fffd9e00188a38b8c6cca6ff7a87c626b61f6a15c09ab4df637cd92d0d050ecd"), looks := false }, kinds := [], alts := [], laidByText := true, laidKinds := [.data], laidTests := true, laidLooks := .later }
def CalendarDatesCardSaid : Prop := Claim7.holds Tryd.pinned (.plain (OpenSpec.ofChange calendarDatesSpec)) calendarDatesCard

/-- THE TIED CARD OF 'airlinelaw03.CalendarWeeks'. -/
def calendarWeeksCard : Claim7 := { stood := { row := calendarWeeksRow, standIns := [], harness := (true, "fffd9e00188a38b8c6cca6ff7a87c626b61f6a15c09ab4df637cd92d0d050ecd"), looks := false }, kinds := [], alts := [], laidByText := true, laidKinds := [.data], laidTests := true, laidLooks := .later }
def CalendarWeeksCardSaid : Prop := Claim7.holds Tryd.pinned (.plain (OpenSpec.ofChange calendarWeeksSpec)) calendarWeeksCard

/-- THE TIED CARD OF 'airlinelaw03.CalendarTexts'. -/
def calendarTextsCard : Claim7 := { stood := { row := calendarTextsRow, standIns := [], harness := (true, "fffd9e00188a38b8c6cca6ff7a87c626b61f6a15c09ab4df637cd92d0d050ecd"), looks := false }, kinds := [], alts := [], laidByText := true, laidKinds := [.data], laidTests := true, laidLooks := .later }
def CalendarTextsCardSaid : Prop := Claim7.holds Tryd.pinned (.plain (OpenSpec.ofChange calendarTextsSpec)) calendarTextsCard

/-- THE TIED CARD OF 'airlinelaw03.CalendarClocks'. -/
def calendarClocksCard : Claim7 := { stood := { row := calendarClocksRow, standIns := [], harness := (true, "fffd9e00188a38b8c6cca6ff7a87c626b61f6a15c09ab4df637cd92d0d050ecd"), looks := false }, kinds := [], alts := [], laidByText := true, laidKinds := [.data], laidTests := true, laidLooks := .later }
def CalendarClocksCardSaid : Prop := Claim7.holds Tryd.pinned (.plain (OpenSpec.ofChange calendarClocksSpec)) calendarClocksCard

/-- THE TIED CARD OF 'airlinelaw03.CalendarSplits'. -/
def calendarSplitsCard : Claim7 := { stood := { row := calendarSplitsRow, standIns := [], harness := (true, "fffd9e00188a38b8c6cca6ff7a87c626b61f6a15c09ab4df637cd92d0d050ecd"), looks := false }, kinds := [], alts := [], laidByText := true, laidKinds := [.data], laidTests := true, laidLooks := .later }
def CalendarSplitsCardSaid : Prop := Claim7.holds Tryd.pinned (.plain (OpenSpec.ofChange calendarSplitsSpec)) calendarSplitsCard

/-- THE TIED CARD OF 'airlinelaw04.PeriodSets'. -/
def periodSetsCard : Claim7 := { stood := { row := periodSetsRow, standIns := [], harness := (true, "fffd9e00188a38b8c6cca6ff7a87c626b61f6a15c09ab4df637cd92d0d050ecd"), looks := false }, kinds := [], alts := [], laidByText := true, laidKinds := [.data], laidTests := true, laidLooks := .later }
def PeriodSetsCardSaid : Prop := Claim7.holds Tryd.pinned (.plain (OpenSpec.ofChange periodSetsSpec)) periodSetsCard

/-- THE TIED CARD OF 'airlinelaw04.PeriodCanonical'. -/
def periodCanonicalCard : Claim7 := { stood := { row := periodCanonicalRow, standIns := [], harness := (true, "fffd9e00188a38b8c6cca6ff7a87c626b61f6a15c09ab4df637cd92d0d050ecd"), looks := false }, kinds := [], alts := [], laidByText := true, laidKinds := [.data], laidTests := true, laidLooks := .later }
def PeriodCanonicalCardSaid : Prop := Claim7.holds Tryd.pinned (.plain (OpenSpec.ofChange periodCanonicalSpec)) periodCanonicalCard

/-- THE TIED CARD OF 'airlinelaw04.PeriodParts'. -/
def periodPartsCard : Claim7 := { stood := { row := periodPartsRow, standIns := [], harness := (true, "fffd9e00188a38b8c6cca6ff7a87c626b61f6a15c09ab4df637cd92d0d050ecd"), looks := false }, kinds := [], alts := [], laidByText := true, laidKinds := [.data], laidTests := true, laidLooks := .later }
def PeriodPartsCardSaid : Prop := Claim7.holds Tryd.pinned (.plain (OpenSpec.ofChange periodPartsSpec)) periodPartsCard

/-- THE TIED CARD OF 'airlinelaw04.PeriodWeeks'. -/
def periodWeeksCard : Claim7 := { stood := { row := periodWeeksRow, standIns := [], harness := (true, "fffd9e00188a38b8c6cca6ff7a87c626b61f6a15c09ab4df637cd92d0d050ecd"), looks := false }, kinds := [], alts := [], laidByText := true, laidKinds := [.data], laidTests := true, laidLooks := .later }
def PeriodWeeksCardSaid : Prop := Claim7.holds Tryd.pinned (.plain (OpenSpec.ofChange periodWeeksSpec)) periodWeeksCard

/-- THE TIED CARD OF 'airlinelaw04.PeriodDays'. -/
def periodDaysCard : Claim7 := { stood := { row := periodDaysRow, standIns := [], harness := (true, "fffd9e00188a38b8c6cca6ff7a87c626b61f6a15c09ab4df637cd92d0d050ecd"), looks := false }, kinds := [], alts := [], laidByText := true, laidKinds := [.data], laidTests := true, laidLooks := .later }
def PeriodDaysCardSaid : Prop := Claim7.holds Tryd.pinned (.plain (OpenSpec.ofChange periodDaysSpec)) periodDaysCard

/-- THE TIED CARD OF 'airlinelaw04.PeriodTexts'. -/
def periodTextsCard : Claim7 := { stood := { row := periodTextsRow, standIns := [], harness := (true, "fffd9e00188a38b8c6cca6ff7a87c626b61f6a15c09ab4df637cd92d0d050ecd"), looks := false }, kinds := [], alts := [], laidByText := true, laidKinds := [.data, .data, .pinned], laidTests := true, laidLooks := .later }
def PeriodTextsCardSaid : Prop := Claim7.holds Tryd.pinned (.plain (OpenSpec.ofChange periodTextsSpec)) periodTextsCard

/-- THE SECOND FORM's CARD OF 'airlinelaw03.CalendarDays'. -/
def calendarDaysUptoCard : Claim7 := { stood := { row := calendarDaysUptoRow, standIns := [], harness := (true, "fffd9e00188a38b8c6cca6ff7a87c626b61f6a15c09ab4df637cd92d0d050ecd"), looks := false }, kinds := [], alts := [], laidByText := true, laidKinds := [.data], laidTests := true, laidLooks := .later }
def CalendarDaysUptoCardSaid : Prop := Claim7.holds Tryd.pinned (.plain (OpenSpec.upto calendarDaysSpec)) calendarDaysUptoCard

/-- THE SECOND FORM's CARD OF 'airlinelaw03.CalendarDates'. -/
def calendarDatesUptoCard : Claim7 := { stood := { row := calendarDatesUptoRow, standIns := [], harness := (true, "fffd9e00188a38b8c6cca6ff7a87c626b61f6a15c09ab4df637cd92d0d050ecd"), looks := false }, kinds := [], alts := [], laidByText := true, laidKinds := [.data], laidTests := true, laidLooks := .later }
def CalendarDatesUptoCardSaid : Prop := Claim7.holds Tryd.pinned (.plain (OpenSpec.upto calendarDatesSpec)) calendarDatesUptoCard

/-- THE SECOND FORM's CARD OF 'airlinelaw03.CalendarWeeks'. -/
def calendarWeeksUptoCard : Claim7 := { stood := { row := calendarWeeksUptoRow, standIns := [], harness := (true, "fffd9e00188a38b8c6cca6ff7a87c626b61f6a15c09ab4df637cd92d0d050ecd"), looks := false }, kinds := [], alts := [], laidByText := true, laidKinds := [.data], laidTests := true, laidLooks := .later }
def CalendarWeeksUptoCardSaid : Prop := Claim7.holds Tryd.pinned (.plain (OpenSpec.upto calendarWeeksSpec)) calendarWeeksUptoCard

/-- THE SECOND FORM's CARD OF 'airlinelaw03.CalendarTexts'. -/
def calendarTextsUptoCard : Claim7 := { stood := { row := calendarTextsUptoRow, standIns := [], harness := (true, "fffd9e00188a38b8c6cca6ff7a87c626b61f6a15c09ab4df637cd92d0d050ecd"), looks := false }, kinds := [], alts := [], laidByText := true, laidKinds := [.data], laidTests := true, laidLooks := .later }
def CalendarTextsUptoCardSaid : Prop := Claim7.holds Tryd.pinned (.plain (OpenSpec.upto calendarTextsSpec)) calendarTextsUptoCard

/-- THE SECOND FORM's CARD OF 'airlinelaw03.CalendarClocks'. -/
def calendarClocksUptoCard : Claim7 := { stood := { row := calendarClocksUptoRow, standIns := [], harness := (true, "fffd9e00188a38b8c6cca6ff7a87c626b61f6a15c09ab4df637cd92d0d050ecd"), looks := false }, kinds := [], alts := [], laidByText := true, laidKinds := [.data], laidTests := true, laidLooks := .later }
def CalendarClocksUptoCardSaid : Prop := Claim7.holds Tryd.pinned (.plain (OpenSpec.upto calendarClocksSpec)) calendarClocksUptoCard

/-- THE SECOND FORM's CARD OF 'airlinelaw03.CalendarSplits'. -/
def calendarSplitsUptoCard : Claim7 := { stood := { row := calendarSplitsUptoRow, standIns := [], harness := (true, "fffd9e00188a38b8c6cca6ff7a87c626b61f6a15c09ab4df637cd92d0d050ecd"), looks := false }, kinds := [], alts := [], laidByText := true, laidKinds := [.data], laidTests := true, laidLooks := .later }
def CalendarSplitsUptoCardSaid : Prop := Claim7.holds Tryd.pinned (.plain (OpenSpec.upto calendarSplitsSpec)) calendarSplitsUptoCard

/-- THE SECOND FORM's CARD OF 'airlinelaw04.PeriodSets'. -/
def periodSetsUptoCard : Claim7 := { stood := { row := periodSetsUptoRow, standIns := [], harness := (true, "fffd9e00188a38b8c6cca6ff7a87c626b61f6a15c09ab4df637cd92d0d050ecd"), looks := false }, kinds := [], alts := [], laidByText := true, laidKinds := [.data], laidTests := true, laidLooks := .later }
def PeriodSetsUptoCardSaid : Prop := Claim7.holds Tryd.pinned (.plain (OpenSpec.upto periodSetsSpec)) periodSetsUptoCard

/-- THE SECOND FORM's CARD OF 'airlinelaw04.PeriodCanonical'. -/
def periodCanonicalUptoCard : Claim7 := { stood := { row := periodCanonicalUptoRow, standIns := [], harness := (true, "fffd9e00188a38b8c6cca6ff7a87c626b61f6a15c09ab4df637cd92d0d050ecd"), looks := false }, kinds := [], alts := [], laidByText := true, laidKinds := [.data], laidTests := true, laidLooks := .later }
def PeriodCanonicalUptoCardSaid : Prop := Claim7.holds Tryd.pinned (.plain (OpenSpec.upto periodCanonicalSpec)) periodCanonicalUptoCard

/-- THE SECOND FORM's CARD OF 'airlinelaw04.PeriodParts'. -/
def periodPartsUptoCard : Claim7 := { stood := { row := periodPartsUptoRow, standIns := [], harness := (true, "fffd9e00188a38b8c6cca6ff7a87c626b61f6a15c09ab4df637cd92d0d050ecd"), looks := false }, kinds := [], alts := [], laidByText := true, laidKinds := [.data], laidTests := true, laidLooks := .later }
def PeriodPartsUptoCardSaid : Prop := Claim7.holds Tryd.pinned (.plain (OpenSpec.upto periodPartsSpec)) periodPartsUptoCard

/-- THE SECOND FORM's CARD OF 'airlinelaw04.PeriodWeeks'. -/
def periodWeeksUptoCard : Claim7 := { stood := { row := periodWeeksUptoRow, standIns := [], harness := (true, "fffd9e00188a38b8c6cca6ff7a87c626b61f6a15c09ab4df637cd92d0d050ecd"), looks := false }, kinds := [], alts := [], laidByText := true, laidKinds := [.data], laidTests := true, laidLooks := .later }
def PeriodWeeksUptoCardSaid : Prop := Claim7.holds Tryd.pinned (.plain (OpenSpec.upto periodWeeksSpec)) periodWeeksUptoCard

/-- THE SECOND FORM's CARD OF 'airlinelaw04.PeriodDays'. -/
def periodDaysUptoCard : Claim7 := { stood := { row := periodDaysUptoRow, standIns := [], harness := (true, "fffd9e00188a38b8c6cca6ff7a87c626b61f6a15c09ab4df637cd92d0d050ecd"), looks := false }, kinds := [], alts := [], laidByText := true, laidKinds := [.data], laidTests := true, laidLooks := .later }
def PeriodDaysUptoCardSaid : Prop := Claim7.holds Tryd.pinned (.plain (OpenSpec.upto periodDaysSpec)) periodDaysUptoCard

/-- THE SECOND FORM's CARD OF 'airlinelaw04.PeriodTexts'. -/
def periodTextsUptoCard : Claim7 := { stood := { row := periodTextsUptoRow, standIns := [], harness := (true, "fffd9e00188a38b8c6cca6ff7a87c626b61f6a15c09ab4df637cd92d0d050ecd"), looks := false }, kinds := [], alts := [], laidByText := true, laidKinds := [.data, .data, .pinned], laidTests := true, laidLooks := .later }
def PeriodTextsUptoCardSaid : Prop := Claim7.holds Tryd.pinned (.plain (OpenSpec.upto periodTextsSpec)) periodTextsUptoCard
end Rows
end Go.Proofs.YtfmdnmkojeolkaaDoor
