/-
  NARROWER THAN 'FOR EVERY INPUT', by the rows' own cells (each row's printed sentence says how): CalendarDays: laid · CalendarDates: laid · CalendarWeeks: laid · CalendarTexts: laid · CalendarClocks: laid · CalendarSplits: laid · PeriodSets: laid · PeriodCanonical: laid · PeriodParts: laid · PeriodWeeks: laid · PeriodDays: laid · PeriodTexts: laid.
  DERIVED. THE GIVEN ROWS OF THIS SEAT. 12 by the template 'for every input the law returns true; each argument reads behind the call as it read before'; 0 by the template 'total and deterministic' (their statements: YtfmdnmkojeolkaaDoorTotals.lean).
  GIVEN WITH THE SEED: the statements are not yours to turn. If you find one false, say at which input.
  Laid BY PROGRAM, IN A SANDBOX (cutbox-rows.mjs): the forced cells as the released guide's own fill.sh prints them over the translation 89ddda7b1ccbe26b… (all of the seat's roots in one cut). By AI agents, Wed Nov 11 2026. No macro, syntax, notation, axiom, sorry.
-/
import Derived.Test.YtfmdnmkojeolkaaDoorChecked
import GoSem.PinnedTables
import GoSem.Claim
import GoSem.ClaimJoined
import GoSem.ClaimMapViews
import Derived.JoinedTies
import Derived.KernelRfl
namespace Go.Proofs.YtfmdnmkojeolkaaDoor
/- THE CELL 'sum', in the pinned program and in every row, IS THE sha256 OF THE DUMP (.gsa) THAT YtfmdnmkojeolkaaDoorProg.lean LOADS. Nothing in Lean hashes anything: it is a label: what it is worth is what the hold of that sum in a sandbox is worth. -/
noncomputable def Tryd.pinned : Pinned := { name := "ytfmdnmkojeolkaadoor", sum := "89ddda7b1ccbe26bd420459b58a5e759890d096e8c3207358e2c13099afc6155", checked := Tryd.checked }
namespace Rows
def none {H : Type} : Left H := { results := [], args := [] }

/- WHAT THE LISTED PACKAGE-LEVEL VARIABLES READ AS WHEN THE CALL BEGINS. Each datum BY PROGRAM (the guide's laid-datum.mjs) off the statement by which the dump's own 'gosem.cut.vars' lays the variable. In a bare row this is a premise. The card (YtfmdnmkojeolkaaDoorCards.lean) ties it to the program's text. -/
def laid_airline_calendar_lengths {H : Type} : DataW H := .agg [.lit (.int .i64 31), .lit (.int .i64 28), .lit (.int .i64 31), .lit (.int .i64 30), .lit (.int .i64 31), .lit (.int .i64 30), .lit (.int .i64 31), .lit (.int .i64 31), .lit (.int .i64 30), .lit (.int .i64 31), .lit (.int .i64 30), .lit (.int .i64 31)]
def laid_unicode_utf8_acceptRanges {H : Type} : DataW H := .agg [.agg [.lit (.int .u8 128), .lit (.int .u8 191)], .agg [.lit (.int .u8 160), .lit (.int .u8 191)], .agg [.lit (.int .u8 128), .lit (.int .u8 159)], .agg [.lit (.int .u8 144), .lit (.int .u8 191)], .agg [.lit (.int .u8 128), .lit (.int .u8 143)], .agg [.lit (.int .u8 0), .lit (.int .u8 0)], .agg [.lit (.int .u8 0), .lit (.int .u8 0)], .agg [.lit (.int .u8 0), .lit (.int .u8 0)], .agg [.lit (.int .u8 0), .lit (.int .u8 0)], .agg [.lit (.int .u8 0), .lit (.int .u8 0)], .agg [.lit (.int .u8 0), .lit (.int .u8 0)], .agg [.lit (.int .u8 0), .lit (.int .u8 0)], .agg [.lit (.int .u8 0), .lit (.int .u8 0)], .agg [.lit (.int .u8 0), .lit (.int .u8 0)], .agg [.lit (.int .u8 0), .lit (.int .u8 0)], .agg [.lit (.int .u8 0), .lit (.int .u8 0)]]
/-- One of Go's own tables, pinned by name: the form's constant. -/
def laid_unicode_utf8_first : DataW Unit := Go.Pinned.utf8First

/-- 'airlinelaw03.CalendarDays': WHATEVER THE INPUT: true; the input reads as it did. -/
def calendarDaysSpec : ChangeSpec := { name := "calendarDays", fn := fun _ => fun
  | [d1, d2, d3] => { results := [.lit (.bool true)], args := [d1, d2, d3] }
  | _ => none }
def calendarDaysRow : OpenClaim := { program := "ytfmdnmkojeolkaadoor", sum := "89ddda7b1ccbe26bd420459b58a5e759890d096e8c3207358e2c13099afc6155", func := "airline/airlinelaw03.CalendarDays", spec := "calendarDays", named := ["airline/calendar.lengths"], apart := false, laid := [("airline/calendar.lengths", laid_airline_calendar_lengths)] }
def CalendarDaysSaid : Prop := calendarDaysRow.holds Tryd.pinned (OpenSpec.ofChange calendarDaysSpec)

/-- ITS FALSE NEIGHBOUR: 'it returns false'. Refute it at one input. -/
def calendarDaysWrong : ChangeSpec := { name := "calendarDays", fn := fun _ => fun
  | [d1, d2, d3] => { results := [.lit (.bool false)], args := [d1, d2, d3] }
  | _ => none }
def CalendarDaysWrongFalsely : Prop := calendarDaysRow.holds Tryd.pinned (OpenSpec.ofChange calendarDaysWrong)

/-- 'airlinelaw03.CalendarDates': WHATEVER THE INPUT: true; the input reads as it did. -/
def calendarDatesSpec : ChangeSpec := { name := "calendarDates", fn := fun _ => fun
  | [d] => { results := [.lit (.bool true)], args := [d] }
  | _ => none }
def calendarDatesRow : OpenClaim := { program := "ytfmdnmkojeolkaadoor", sum := "89ddda7b1ccbe26bd420459b58a5e759890d096e8c3207358e2c13099afc6155", func := "airline/airlinelaw03.CalendarDates", spec := "calendarDates", named := ["airline/calendar.lengths"], apart := false, laid := [("airline/calendar.lengths", laid_airline_calendar_lengths)] }
def CalendarDatesSaid : Prop := calendarDatesRow.holds Tryd.pinned (OpenSpec.ofChange calendarDatesSpec)

/-- ITS FALSE NEIGHBOUR: 'it returns false'. Refute it at one input. -/
def calendarDatesWrong : ChangeSpec := { name := "calendarDates", fn := fun _ => fun
  | [d] => { results := [.lit (.bool false)], args := [d] }
  | _ => none }
def CalendarDatesWrongFalsely : Prop := calendarDatesRow.holds Tryd.pinned (OpenSpec.ofChange calendarDatesWrong)

/-- 'airlinelaw03.CalendarWeeks': WHATEVER THE INPUT: true; the input reads as it did. -/
def calendarWeeksSpec : ChangeSpec := { name := "calendarWeeks", fn := fun _ => fun
  | [d] => { results := [.lit (.bool true)], args := [d] }
  | _ => none }
def calendarWeeksRow : OpenClaim := { program := "ytfmdnmkojeolkaadoor", sum := "89ddda7b1ccbe26bd420459b58a5e759890d096e8c3207358e2c13099afc6155", func := "airline/airlinelaw03.CalendarWeeks", spec := "calendarWeeks", named := ["airline/calendar.lengths"], apart := false, laid := [("airline/calendar.lengths", laid_airline_calendar_lengths)] }
def CalendarWeeksSaid : Prop := calendarWeeksRow.holds Tryd.pinned (OpenSpec.ofChange calendarWeeksSpec)

/-- ITS FALSE NEIGHBOUR: 'it returns false'. Refute it at one input. -/
def calendarWeeksWrong : ChangeSpec := { name := "calendarWeeks", fn := fun _ => fun
  | [d] => { results := [.lit (.bool false)], args := [d] }
  | _ => none }
def CalendarWeeksWrongFalsely : Prop := calendarWeeksRow.holds Tryd.pinned (OpenSpec.ofChange calendarWeeksWrong)

/-- 'airlinelaw03.CalendarTexts': WHATEVER THE INPUT: true; the input reads as it did. -/
def calendarTextsSpec : ChangeSpec := { name := "calendarTexts", fn := fun _ => fun
  | [d1, d2] => { results := [.lit (.bool true)], args := [d1, d2] }
  | _ => none }
def calendarTextsRow : OpenClaim := { program := "ytfmdnmkojeolkaadoor", sum := "89ddda7b1ccbe26bd420459b58a5e759890d096e8c3207358e2c13099afc6155", func := "airline/airlinelaw03.CalendarTexts", spec := "calendarTexts", named := ["airline/calendar.lengths"], apart := false, laid := [("airline/calendar.lengths", laid_airline_calendar_lengths)] }
def CalendarTextsSaid : Prop := calendarTextsRow.holds Tryd.pinned (OpenSpec.ofChange calendarTextsSpec)

/-- ITS FALSE NEIGHBOUR: 'it returns false'. Refute it at one input. -/
def calendarTextsWrong : ChangeSpec := { name := "calendarTexts", fn := fun _ => fun
  | [d1, d2] => { results := [.lit (.bool false)], args := [d1, d2] }
  | _ => none }
def CalendarTextsWrongFalsely : Prop := calendarTextsRow.holds Tryd.pinned (OpenSpec.ofChange calendarTextsWrong)

/-- 'airlinelaw03.CalendarClocks': WHATEVER THE INPUT: true; the input reads as it did. -/
def calendarClocksSpec : ChangeSpec := { name := "calendarClocks", fn := fun _ => fun
  | [d1, d2] => { results := [.lit (.bool true)], args := [d1, d2] }
  | _ => none }
def calendarClocksRow : OpenClaim := { program := "ytfmdnmkojeolkaadoor", sum := "89ddda7b1ccbe26bd420459b58a5e759890d096e8c3207358e2c13099afc6155", func := "airline/airlinelaw03.CalendarClocks", spec := "calendarClocks", named := ["airline/calendar.lengths"], apart := false, laid := [("airline/calendar.lengths", laid_airline_calendar_lengths)] }
def CalendarClocksSaid : Prop := calendarClocksRow.holds Tryd.pinned (OpenSpec.ofChange calendarClocksSpec)

/-- ITS FALSE NEIGHBOUR: 'it returns false'. Refute it at one input. -/
def calendarClocksWrong : ChangeSpec := { name := "calendarClocks", fn := fun _ => fun
  | [d1, d2] => { results := [.lit (.bool false)], args := [d1, d2] }
  | _ => none }
def CalendarClocksWrongFalsely : Prop := calendarClocksRow.holds Tryd.pinned (OpenSpec.ofChange calendarClocksWrong)

/-- 'airlinelaw03.CalendarSplits': WHATEVER THE INPUT: true; the input reads as it did. -/
def calendarSplitsSpec : ChangeSpec := { name := "calendarSplits", fn := fun _ => fun
  | [d] => { results := [.lit (.bool true)], args := [d] }
  | _ => none }
def calendarSplitsRow : OpenClaim := { program := "ytfmdnmkojeolkaadoor", sum := "89ddda7b1ccbe26bd420459b58a5e759890d096e8c3207358e2c13099afc6155", func := "airline/airlinelaw03.CalendarSplits", spec := "calendarSplits", named := ["airline/calendar.lengths"], apart := false, laid := [("airline/calendar.lengths", laid_airline_calendar_lengths)] }
def CalendarSplitsSaid : Prop := calendarSplitsRow.holds Tryd.pinned (OpenSpec.ofChange calendarSplitsSpec)

/-- ITS FALSE NEIGHBOUR: 'it returns false'. Refute it at one input. -/
def calendarSplitsWrong : ChangeSpec := { name := "calendarSplits", fn := fun _ => fun
  | [d] => { results := [.lit (.bool false)], args := [d] }
  | _ => none }
def CalendarSplitsWrongFalsely : Prop := calendarSplitsRow.holds Tryd.pinned (OpenSpec.ofChange calendarSplitsWrong)

/-- 'airlinelaw04.PeriodSets': WHATEVER THE INPUT: true; the input reads as it did. -/
def periodSetsSpec : ChangeSpec := { name := "periodSets", fn := fun _ => fun
  | [d1, d2] => { results := [.lit (.bool true)], args := [d1, d2] }
  | _ => none }
def periodSetsRow : OpenClaim := { program := "ytfmdnmkojeolkaadoor", sum := "89ddda7b1ccbe26bd420459b58a5e759890d096e8c3207358e2c13099afc6155", func := "airline/airlinelaw04.PeriodSets", spec := "periodSets", unfollowed := true, recurses := true, named := ["airline/calendar.lengths"], apart := false, laid := [("airline/calendar.lengths", laid_airline_calendar_lengths)] }
def PeriodSetsSaid : Prop := periodSetsRow.holds Tryd.pinned (OpenSpec.ofChange periodSetsSpec)

/-- ITS FALSE NEIGHBOUR: 'it returns false'. Refute it at one input. -/
def periodSetsWrong : ChangeSpec := { name := "periodSets", fn := fun _ => fun
  | [d1, d2] => { results := [.lit (.bool false)], args := [d1, d2] }
  | _ => none }
def PeriodSetsWrongFalsely : Prop := periodSetsRow.holds Tryd.pinned (OpenSpec.ofChange periodSetsWrong)

/-- 'airlinelaw04.PeriodCanonical': WHATEVER THE INPUT: true; the input reads as it did. -/
def periodCanonicalSpec : ChangeSpec := { name := "periodCanonical", fn := fun _ => fun
  | [d1, d2] => { results := [.lit (.bool true)], args := [d1, d2] }
  | _ => none }
def periodCanonicalRow : OpenClaim := { program := "ytfmdnmkojeolkaadoor", sum := "89ddda7b1ccbe26bd420459b58a5e759890d096e8c3207358e2c13099afc6155", func := "airline/airlinelaw04.PeriodCanonical", spec := "periodCanonical", unfollowed := true, recurses := true, named := ["airline/calendar.lengths"], apart := false, laid := [("airline/calendar.lengths", laid_airline_calendar_lengths)] }
def PeriodCanonicalSaid : Prop := periodCanonicalRow.holds Tryd.pinned (OpenSpec.ofChange periodCanonicalSpec)

/-- ITS FALSE NEIGHBOUR: 'it returns false'. Refute it at one input. -/
def periodCanonicalWrong : ChangeSpec := { name := "periodCanonical", fn := fun _ => fun
  | [d1, d2] => { results := [.lit (.bool false)], args := [d1, d2] }
  | _ => none }
def PeriodCanonicalWrongFalsely : Prop := periodCanonicalRow.holds Tryd.pinned (OpenSpec.ofChange periodCanonicalWrong)

/-- 'airlinelaw04.PeriodParts': WHATEVER THE INPUT: true; the input reads as it did. -/
def periodPartsSpec : ChangeSpec := { name := "periodParts", fn := fun _ => fun
  | [d1, d2, d3] => { results := [.lit (.bool true)], args := [d1, d2, d3] }
  | _ => none }
def periodPartsRow : OpenClaim := { program := "ytfmdnmkojeolkaadoor", sum := "89ddda7b1ccbe26bd420459b58a5e759890d096e8c3207358e2c13099afc6155", func := "airline/airlinelaw04.PeriodParts", spec := "periodParts", unfollowed := true, recurses := true, named := ["airline/calendar.lengths"], apart := false, laid := [("airline/calendar.lengths", laid_airline_calendar_lengths)] }
def PeriodPartsSaid : Prop := periodPartsRow.holds Tryd.pinned (OpenSpec.ofChange periodPartsSpec)

/-- ITS FALSE NEIGHBOUR: 'it returns false'. Refute it at one input. -/
def periodPartsWrong : ChangeSpec := { name := "periodParts", fn := fun _ => fun
  | [d1, d2, d3] => { results := [.lit (.bool false)], args := [d1, d2, d3] }
  | _ => none }
def PeriodPartsWrongFalsely : Prop := periodPartsRow.holds Tryd.pinned (OpenSpec.ofChange periodPartsWrong)

/-- 'airlinelaw04.PeriodWeeks': WHATEVER THE INPUT: true; the input reads as it did. -/
def periodWeeksSpec : ChangeSpec := { name := "periodWeeks", fn := fun _ => fun
  | [d1, d2] => { results := [.lit (.bool true)], args := [d1, d2] }
  | _ => none }
def periodWeeksRow : OpenClaim := { program := "ytfmdnmkojeolkaadoor", sum := "89ddda7b1ccbe26bd420459b58a5e759890d096e8c3207358e2c13099afc6155", func := "airline/airlinelaw04.PeriodWeeks", spec := "periodWeeks", unfollowed := true, recurses := true, named := ["airline/calendar.lengths"], apart := false, laid := [("airline/calendar.lengths", laid_airline_calendar_lengths)] }
def PeriodWeeksSaid : Prop := periodWeeksRow.holds Tryd.pinned (OpenSpec.ofChange periodWeeksSpec)

/-- ITS FALSE NEIGHBOUR: 'it returns false'. Refute it at one input. -/
def periodWeeksWrong : ChangeSpec := { name := "periodWeeks", fn := fun _ => fun
  | [d1, d2] => { results := [.lit (.bool false)], args := [d1, d2] }
  | _ => none }
def PeriodWeeksWrongFalsely : Prop := periodWeeksRow.holds Tryd.pinned (OpenSpec.ofChange periodWeeksWrong)

/-- 'airlinelaw04.PeriodDays': WHATEVER THE INPUT: true; the input reads as it did. -/
def periodDaysSpec : ChangeSpec := { name := "periodDays", fn := fun _ => fun
  | [d1, d2] => { results := [.lit (.bool true)], args := [d1, d2] }
  | _ => none }
def periodDaysRow : OpenClaim := { program := "ytfmdnmkojeolkaadoor", sum := "89ddda7b1ccbe26bd420459b58a5e759890d096e8c3207358e2c13099afc6155", func := "airline/airlinelaw04.PeriodDays", spec := "periodDays", unfollowed := true, recurses := true, named := ["airline/calendar.lengths"], apart := false, laid := [("airline/calendar.lengths", laid_airline_calendar_lengths)] }
def PeriodDaysSaid : Prop := periodDaysRow.holds Tryd.pinned (OpenSpec.ofChange periodDaysSpec)

/-- ITS FALSE NEIGHBOUR: 'it returns false'. Refute it at one input. -/
def periodDaysWrong : ChangeSpec := { name := "periodDays", fn := fun _ => fun
  | [d1, d2] => { results := [.lit (.bool false)], args := [d1, d2] }
  | _ => none }
def PeriodDaysWrongFalsely : Prop := periodDaysRow.holds Tryd.pinned (OpenSpec.ofChange periodDaysWrong)

/-- 'airlinelaw04.PeriodTexts': WHATEVER THE INPUT: true; the input reads as it did. -/
def periodTextsSpec : ChangeSpec := { name := "periodTexts", fn := fun _ => fun
  | [d1, d2] => { results := [.lit (.bool true)], args := [d1, d2] }
  | _ => none }
def periodTextsRow : OpenClaim := { program := "ytfmdnmkojeolkaadoor", sum := "89ddda7b1ccbe26bd420459b58a5e759890d096e8c3207358e2c13099afc6155", func := "airline/airlinelaw04.PeriodTexts", spec := "periodTexts", inPlace := ["internal/bytealg.CountString", "internal/bytealg.IndexByteString", "internal/bytealg.IndexString"], unfollowed := true, recurses := true, named := ["airline/calendar.lengths", "unicode/utf8.first", "unicode/utf8.acceptRanges", "internal/bytealg.MaxLen"], apart := false, laid := [("airline/calendar.lengths", laid_airline_calendar_lengths), ("unicode/utf8.acceptRanges", laid_unicode_utf8_acceptRanges), ("unicode/utf8.first", laid_unicode_utf8_first)] }
def PeriodTextsSaid : Prop := periodTextsRow.holds Tryd.pinned (OpenSpec.ofChange periodTextsSpec)

/-- ITS FALSE NEIGHBOUR: 'it returns false'. Refute it at one input. -/
def periodTextsWrong : ChangeSpec := { name := "periodTexts", fn := fun _ => fun
  | [d1, d2] => { results := [.lit (.bool false)], args := [d1, d2] }
  | _ => none }
def PeriodTextsWrongFalsely : Prop := periodTextsRow.holds Tryd.pinned (OpenSpec.ofChange periodTextsWrong)

/- THE SECOND FORM. 'bulk': how many values and letters a reading holds, each counted each time it is reached (what is shared counts as often as it is met; a slice's spare places count too). A statement '..UptoSaid' is the law's where the arguments, and the package variables that the reading takes, are together of bulk at most 1048576: NARROWER than '..Said'. Prove '..Said' where nothing that the law and all that it calls make is longer than what came in: it says more and counts as full. Else prove '..UptoSaid'. A law counts once. -/
mutual
def uptoBulk {H : Type} : DataW H → Nat
  | .lit (.string bytes) => bytes.length + 1
  | .lit _ => 1
  | .nil => 1
  | .ptr d => uptoBulk d + 1
  | .slice elems spare => uptoBulkAll elems + uptoBulkAll spare + 1
  | .agg parts => uptoBulkAll parts + 1
  | .iface _ d => uptoBulk d + 1
  | .map entries => uptoBulkEntries entries + 1
  | .held _ => 1
def uptoBulkAll {H : Type} : List (DataW H) → Nat
  | [] => 0
  | d :: r => uptoBulk d + uptoBulkAll r
def uptoBulkEntries {H : Type} : List (Lit × DataW H) → Nat
  | [] => 0
  | x :: r => uptoBulkEntry x + uptoBulkEntries r
def uptoBulkEntry {H : Type} : Lit × DataW H → Nat
  | (.string bytes, d) => bytes.length + uptoBulk d + 1
  | (_, d) => uptoBulk d + 1
 end
def uptoSmall : (H : Type) → List (DataW H) → Bool := fun _ ds => decide (uptoBulkAll ds ≤ 1048576)
def OpenSpec.upto (s : _root_.Go.ChangeSpec) : _root_.Go.OpenSpec := { _root_.Go.OpenSpec.ofChange s with cond := some uptoSmall }

/-- 'airlinelaw03.CalendarDays', WHERE WHAT IT READS IS OF BULK AT MOST 1048576: true; the input reads as it did. -/
def calendarDaysUptoRow : OpenClaim := { program := "ytfmdnmkojeolkaadoor", sum := "89ddda7b1ccbe26bd420459b58a5e759890d096e8c3207358e2c13099afc6155", func := "airline/airlinelaw03.CalendarDays", spec := "calendarDays", named := ["airline/calendar.lengths"], apart := false, laid := [("airline/calendar.lengths", laid_airline_calendar_lengths)], narrowed := true }
def CalendarDaysUptoSaid : Prop := calendarDaysUptoRow.holds Tryd.pinned (OpenSpec.upto calendarDaysSpec)

/-- 'airlinelaw03.CalendarDates', WHERE WHAT IT READS IS OF BULK AT MOST 1048576: true; the input reads as it did. -/
def calendarDatesUptoRow : OpenClaim := { program := "ytfmdnmkojeolkaadoor", sum := "89ddda7b1ccbe26bd420459b58a5e759890d096e8c3207358e2c13099afc6155", func := "airline/airlinelaw03.CalendarDates", spec := "calendarDates", named := ["airline/calendar.lengths"], apart := false, laid := [("airline/calendar.lengths", laid_airline_calendar_lengths)], narrowed := true }
def CalendarDatesUptoSaid : Prop := calendarDatesUptoRow.holds Tryd.pinned (OpenSpec.upto calendarDatesSpec)

/-- 'airlinelaw03.CalendarWeeks', WHERE WHAT IT READS IS OF BULK AT MOST 1048576: true; the input reads as it did. -/
def calendarWeeksUptoRow : OpenClaim := { program := "ytfmdnmkojeolkaadoor", sum := "89ddda7b1ccbe26bd420459b58a5e759890d096e8c3207358e2c13099afc6155", func := "airline/airlinelaw03.CalendarWeeks", spec := "calendarWeeks", named := ["airline/calendar.lengths"], apart := false, laid := [("airline/calendar.lengths", laid_airline_calendar_lengths)], narrowed := true }
def CalendarWeeksUptoSaid : Prop := calendarWeeksUptoRow.holds Tryd.pinned (OpenSpec.upto calendarWeeksSpec)

/-- 'airlinelaw03.CalendarTexts', WHERE WHAT IT READS IS OF BULK AT MOST 1048576: true; the input reads as it did. -/
def calendarTextsUptoRow : OpenClaim := { program := "ytfmdnmkojeolkaadoor", sum := "89ddda7b1ccbe26bd420459b58a5e759890d096e8c3207358e2c13099afc6155", func := "airline/airlinelaw03.CalendarTexts", spec := "calendarTexts", named := ["airline/calendar.lengths"], apart := false, laid := [("airline/calendar.lengths", laid_airline_calendar_lengths)], narrowed := true }
def CalendarTextsUptoSaid : Prop := calendarTextsUptoRow.holds Tryd.pinned (OpenSpec.upto calendarTextsSpec)

/-- 'airlinelaw03.CalendarClocks', WHERE WHAT IT READS IS OF BULK AT MOST 1048576: true; the input reads as it did. -/
def calendarClocksUptoRow : OpenClaim := { program := "ytfmdnmkojeolkaadoor", sum := "89ddda7b1ccbe26bd420459b58a5e759890d096e8c3207358e2c13099afc6155", func := "airline/airlinelaw03.CalendarClocks", spec := "calendarClocks", named := ["airline/calendar.lengths"], apart := false, laid := [("airline/calendar.lengths", laid_airline_calendar_lengths)], narrowed := true }
def CalendarClocksUptoSaid : Prop := calendarClocksUptoRow.holds Tryd.pinned (OpenSpec.upto calendarClocksSpec)

/-- 'airlinelaw03.CalendarSplits', WHERE WHAT IT READS IS OF BULK AT MOST 1048576: true; the input reads as it did. -/
def calendarSplitsUptoRow : OpenClaim := { program := "ytfmdnmkojeolkaadoor", sum := "89ddda7b1ccbe26bd420459b58a5e759890d096e8c3207358e2c13099afc6155", func := "airline/airlinelaw03.CalendarSplits", spec := "calendarSplits", named := ["airline/calendar.lengths"], apart := false, laid := [("airline/calendar.lengths", laid_airline_calendar_lengths)], narrowed := true }
def CalendarSplitsUptoSaid : Prop := calendarSplitsUptoRow.holds Tryd.pinned (OpenSpec.upto calendarSplitsSpec)

/-- 'airlinelaw04.PeriodSets', WHERE WHAT IT READS IS OF BULK AT MOST 1048576: true; the input reads as it did. -/
def periodSetsUptoRow : OpenClaim := { program := "ytfmdnmkojeolkaadoor", sum := "89ddda7b1ccbe26bd420459b58a5e759890d096e8c3207358e2c13099afc6155", func := "airline/airlinelaw04.PeriodSets", spec := "periodSets", unfollowed := true, recurses := true, named := ["airline/calendar.lengths"], apart := false, laid := [("airline/calendar.lengths", laid_airline_calendar_lengths)], narrowed := true }
def PeriodSetsUptoSaid : Prop := periodSetsUptoRow.holds Tryd.pinned (OpenSpec.upto periodSetsSpec)

/-- 'airlinelaw04.PeriodCanonical', WHERE WHAT IT READS IS OF BULK AT MOST 1048576: true; the input reads as it did. -/
def periodCanonicalUptoRow : OpenClaim := { program := "ytfmdnmkojeolkaadoor", sum := "89ddda7b1ccbe26bd420459b58a5e759890d096e8c3207358e2c13099afc6155", func := "airline/airlinelaw04.PeriodCanonical", spec := "periodCanonical", unfollowed := true, recurses := true, named := ["airline/calendar.lengths"], apart := false, laid := [("airline/calendar.lengths", laid_airline_calendar_lengths)], narrowed := true }
def PeriodCanonicalUptoSaid : Prop := periodCanonicalUptoRow.holds Tryd.pinned (OpenSpec.upto periodCanonicalSpec)

/-- 'airlinelaw04.PeriodParts', WHERE WHAT IT READS IS OF BULK AT MOST 1048576: true; the input reads as it did. -/
def periodPartsUptoRow : OpenClaim := { program := "ytfmdnmkojeolkaadoor", sum := "89ddda7b1ccbe26bd420459b58a5e759890d096e8c3207358e2c13099afc6155", func := "airline/airlinelaw04.PeriodParts", spec := "periodParts", unfollowed := true, recurses := true, named := ["airline/calendar.lengths"], apart := false, laid := [("airline/calendar.lengths", laid_airline_calendar_lengths)], narrowed := true }
def PeriodPartsUptoSaid : Prop := periodPartsUptoRow.holds Tryd.pinned (OpenSpec.upto periodPartsSpec)

/-- 'airlinelaw04.PeriodWeeks', WHERE WHAT IT READS IS OF BULK AT MOST 1048576: true; the input reads as it did. -/
def periodWeeksUptoRow : OpenClaim := { program := "ytfmdnmkojeolkaadoor", sum := "89ddda7b1ccbe26bd420459b58a5e759890d096e8c3207358e2c13099afc6155", func := "airline/airlinelaw04.PeriodWeeks", spec := "periodWeeks", unfollowed := true, recurses := true, named := ["airline/calendar.lengths"], apart := false, laid := [("airline/calendar.lengths", laid_airline_calendar_lengths)], narrowed := true }
def PeriodWeeksUptoSaid : Prop := periodWeeksUptoRow.holds Tryd.pinned (OpenSpec.upto periodWeeksSpec)

/-- 'airlinelaw04.PeriodDays', WHERE WHAT IT READS IS OF BULK AT MOST 1048576: true; the input reads as it did. -/
def periodDaysUptoRow : OpenClaim := { program := "ytfmdnmkojeolkaadoor", sum := "89ddda7b1ccbe26bd420459b58a5e759890d096e8c3207358e2c13099afc6155", func := "airline/airlinelaw04.PeriodDays", spec := "periodDays", unfollowed := true, recurses := true, named := ["airline/calendar.lengths"], apart := false, laid := [("airline/calendar.lengths", laid_airline_calendar_lengths)], narrowed := true }
def PeriodDaysUptoSaid : Prop := periodDaysUptoRow.holds Tryd.pinned (OpenSpec.upto periodDaysSpec)

/-- 'airlinelaw04.PeriodTexts', WHERE WHAT IT READS IS OF BULK AT MOST 1048576: true; the input reads as it did. -/
def periodTextsUptoRow : OpenClaim := { program := "ytfmdnmkojeolkaadoor", sum := "89ddda7b1ccbe26bd420459b58a5e759890d096e8c3207358e2c13099afc6155", func := "airline/airlinelaw04.PeriodTexts", spec := "periodTexts", inPlace := ["internal/bytealg.CountString", "internal/bytealg.IndexByteString", "internal/bytealg.IndexString"], unfollowed := true, recurses := true, named := ["airline/calendar.lengths", "unicode/utf8.first", "unicode/utf8.acceptRanges", "internal/bytealg.MaxLen"], apart := false, laid := [("airline/calendar.lengths", laid_airline_calendar_lengths), ("unicode/utf8.acceptRanges", laid_unicode_utf8_acceptRanges), ("unicode/utf8.first", laid_unicode_utf8_first)], narrowed := true }
def PeriodTextsUptoSaid : Prop := periodTextsUptoRow.holds Tryd.pinned (OpenSpec.upto periodTextsSpec)

end Rows
end Go.Proofs.YtfmdnmkojeolkaaDoor
