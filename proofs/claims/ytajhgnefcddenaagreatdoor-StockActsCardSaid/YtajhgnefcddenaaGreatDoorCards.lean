/-
  DERIVED. GIVEN WITH THE SEED: THE CARDS: each row of YtajhgnefcddenaaGreatDoorRows.lean that lists a variable, with what it lists TIED to the program's text (the seventh form; the later family's looks); each row that meets fmt, with fmt's text TOLD by the authors' own Lean function (tested against real Go, not proved from fmt's source: count such statements apart). THE CARD IS WHAT COUNTS. Prove the row's statement (the work); the ties are given (YtajhgnefcddenaaGreatDoorTie.lean); close each card by the builder's one call (the guide's Derived/Test/ToyasCard.lean, 'card_holds'). Laid BY PROGRAM, IN A SANDBOX (cutbox-door.mjs). By AI agents, Wed Nov 11 2026. No macro, syntax, notation, axiom, sorry.
-/
import Derived.Test.YtajhgnefcddenaaGreatDoorRows
import GoSem.ClaimSeven
namespace Go.Proofs.YtajhgnefcddenaaGreatDoor
namespace Rows

/-- THE TIED CARD OF 'airlinelaw19.WaitlistPlays'. -/
def waitlistPlaysCard : Claim7 := { stood := { row := waitlistPlaysRow, standIns := [], harness := (true, "af23b0824d8b3a7878346d3b1eee825f2474f34966cc80e01f423cbd7488fa84"), looks := false }, kinds := [], alts := [], laidByText := true, laidKinds := [.data, .data, .data], laidTests := true, laidLooks := .later }
def WaitlistPlaysCardSaid : Prop := Claim7.holds Tryz.pinned (.plain (OpenSpec.ofChange waitlistPlaysSpec)) waitlistPlaysCard

/-- THE TIED CARD OF 'airlinelaw19.WaitlistClears'. -/
def waitlistClearsCard : Claim7 := { stood := { row := waitlistClearsRow, standIns := [], harness := (true, "af23b0824d8b3a7878346d3b1eee825f2474f34966cc80e01f423cbd7488fa84"), looks := false }, kinds := [], alts := [], laidByText := true, laidKinds := [.data, .data, .data], laidTests := true, laidLooks := .later }
def WaitlistClearsCardSaid : Prop := Claim7.holds Tryz.pinned (.plain (OpenSpec.ofChange waitlistClearsSpec)) waitlistClearsCard

/-- THE TIED CARD OF 'airlinelaw15.StockActs'. -/
def stockActsCard : Claim7 := { stood := { row := stockActsRow, standIns := [], harness := (true, "af23b0824d8b3a7878346d3b1eee825f2474f34966cc80e01f423cbd7488fa84"), looks := false }, kinds := [], alts := [], laidByText := true, laidKinds := [.data, .data, .data], laidTests := true, laidLooks := .later }
def StockActsCardSaid : Prop := Claim7.holds Tryz.pinned (.plain (OpenSpec.ofChange stockActsSpec)) stockActsCard

/-- THE TIED CARD OF 'airlinelaw15.StockTogether'. -/
def stockTogetherCard : Claim7 := { stood := { row := stockTogetherRow, standIns := [], harness := (true, "af23b0824d8b3a7878346d3b1eee825f2474f34966cc80e01f423cbd7488fa84"), looks := false }, kinds := [], alts := [], laidByText := true, laidKinds := [.data, .data, .data], laidTests := true, laidLooks := .later }
def StockTogetherCardSaid : Prop := Claim7.holds Tryz.pinned (.plain (OpenSpec.ofChange stockTogetherSpec)) stockTogetherCard

/-- THE TIED CARD OF 'airlinelaw15.StockCopies'. -/
def stockCopiesCard : Claim7 := { stood := { row := stockCopiesRow, standIns := [], harness := (true, "af23b0824d8b3a7878346d3b1eee825f2474f34966cc80e01f423cbd7488fa84"), looks := false }, kinds := [], alts := [], laidByText := true, laidKinds := [.data, .data, .data], laidTests := true, laidLooks := .later }
def StockCopiesCardSaid : Prop := Claim7.holds Tryz.pinned (.plain (OpenSpec.ofChange stockCopiesSpec)) stockCopiesCard

/-- THE SECOND FORM's CARD OF 'airlinelaw19.WaitlistPlays'. -/
def waitlistPlaysUptoCard : Claim7 := { stood := { row := waitlistPlaysUptoRow, standIns := [], harness := (true, "af23b0824d8b3a7878346d3b1eee825f2474f34966cc80e01f423cbd7488fa84"), looks := false }, kinds := [], alts := [], laidByText := true, laidKinds := [.data, .data, .data], laidTests := true, laidLooks := .later }
def WaitlistPlaysUptoCardSaid : Prop := Claim7.holds Tryz.pinned (.plain (OpenSpec.upto waitlistPlaysSpec)) waitlistPlaysUptoCard

/-- THE SECOND FORM's CARD OF 'airlinelaw19.WaitlistClears'. -/
def waitlistClearsUptoCard : Claim7 := { stood := { row := waitlistClearsUptoRow, standIns := [], harness := (true, "af23b0824d8b3a7878346d3b1eee825f2474f34966cc80e01f423cbd7488fa84"), looks := false }, kinds := [], alts := [], laidByText := true, laidKinds := [.data, .data, .data], laidTests := true, laidLooks := .later }
def WaitlistClearsUptoCardSaid : Prop := Claim7.holds Tryz.pinned (.plain (OpenSpec.upto waitlistClearsSpec)) waitlistClearsUptoCard

/-- THE SECOND FORM's CARD OF 'airlinelaw15.StockActs'. -/
def stockActsUptoCard : Claim7 := { stood := { row := stockActsUptoRow, standIns := [], harness := (true, "af23b0824d8b3a7878346d3b1eee825f2474f34966cc80e01f423cbd7488fa84"), looks := false }, kinds := [], alts := [], laidByText := true, laidKinds := [.data, .data, .data], laidTests := true, laidLooks := .later }
def StockActsUptoCardSaid : Prop := Claim7.holds Tryz.pinned (.plain (OpenSpec.upto stockActsSpec)) stockActsUptoCard

/-- THE SECOND FORM's CARD OF 'airlinelaw15.StockTogether'. -/
def stockTogetherUptoCard : Claim7 := { stood := { row := stockTogetherUptoRow, standIns := [], harness := (true, "af23b0824d8b3a7878346d3b1eee825f2474f34966cc80e01f423cbd7488fa84"), looks := false }, kinds := [], alts := [], laidByText := true, laidKinds := [.data, .data, .data], laidTests := true, laidLooks := .later }
def StockTogetherUptoCardSaid : Prop := Claim7.holds Tryz.pinned (.plain (OpenSpec.upto stockTogetherSpec)) stockTogetherUptoCard

/-- THE SECOND FORM's CARD OF 'airlinelaw15.StockCopies'. -/
def stockCopiesUptoCard : Claim7 := { stood := { row := stockCopiesUptoRow, standIns := [], harness := (true, "af23b0824d8b3a7878346d3b1eee825f2474f34966cc80e01f423cbd7488fa84"), looks := false }, kinds := [], alts := [], laidByText := true, laidKinds := [.data, .data, .data], laidTests := true, laidLooks := .later }
def StockCopiesUptoCardSaid : Prop := Claim7.holds Tryz.pinned (.plain (OpenSpec.upto stockCopiesSpec)) stockCopiesUptoCard
end Rows
end Go.Proofs.YtajhgnefcddenaaGreatDoor
