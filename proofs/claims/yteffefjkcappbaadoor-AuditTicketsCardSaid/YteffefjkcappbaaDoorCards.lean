/-
  DERIVED. GIVEN WITH THE SEED: THE CARDS: each row of YteffefjkcappbaaDoorRows.lean that lists a variable, with what it lists TIED to the program's text (the seventh form; the later family's looks); each row that meets fmt, with fmt's text TOLD by the authors' own Lean function (tested against real Go, not proved from fmt's source: count such statements apart). THE CARD IS WHAT COUNTS. Prove the row's statement (the work); the ties are given (YteffefjkcappbaaDoorTie.lean); close each card by the builder's one call (the guide's Derived/Test/ToyasCard.lean, 'card_holds'). Laid BY PROGRAM, IN A SANDBOX (cutbox-door.mjs). By AI agents, Wed Nov 11 2026. No macro, syntax, notation, axiom, sorry.
-/
import Derived.Test.YteffefjkcappbaaDoorRows
import GoSem.ClaimSeven
namespace Go.Proofs.YteffefjkcappbaaDoor
namespace Rows

/-- THE TIED CARD OF 'airlinelaw18.OfferRises'. -/
def offerRisesCard : Claim7 := { stood := { row := offerRisesRow, standIns := [], harness := (true, "e9f8ebc7aaec7e852614322485b983e39dc3b31b625449cf52234b6d5fe56e4d"), looks := false }, kinds := [], alts := [], laidByText := true, laidKinds := [.data, .data, .data], laidTests := true, laidLooks := .later }
def OfferRisesCardSaid : Prop := Claim7.holds Tryd.pinned (.plain (OpenSpec.ofChange offerRisesSpec)) offerRisesCard

/-- THE TIED CARD OF 'airlinelaw58.AuditTickets'. -/
def auditTicketsCard : Claim7 := { stood := { row := auditTicketsRow, standIns := [], harness := (true, "e9f8ebc7aaec7e852614322485b983e39dc3b31b625449cf52234b6d5fe56e4d"), looks := false }, kinds := [], alts := [], laidByText := true, laidKinds := [.data, .data, .data, .data, .pinned], laidTests := true, laidLooks := .later }
def AuditTicketsCardSaid : Prop := Claim7.holds Tryd.pinned (.plain (OpenSpec.ofChange auditTicketsSpec)) auditTicketsCard

/-- THE TIED CARD OF 'airlinelaw19.WaitlistNil'. -/
def waitlistNilCard : Claim7 := { stood := { row := waitlistNilRow, standIns := [], harness := (true, "e9f8ebc7aaec7e852614322485b983e39dc3b31b625449cf52234b6d5fe56e4d"), looks := false }, kinds := [], alts := [], laidByText := true, laidKinds := [.data, .data, .data], laidTests := true, laidLooks := .later }
def WaitlistNilCardSaid : Prop := Claim7.holds Tryd.pinned (.plain (OpenSpec.ofChange waitlistNilSpec)) waitlistNilCard

/-- THE TIED CARD OF 'airlinelaw19.WaitlistRoom'. -/
def waitlistRoomCard : Claim7 := { stood := { row := waitlistRoomRow, standIns := [], harness := (true, "e9f8ebc7aaec7e852614322485b983e39dc3b31b625449cf52234b6d5fe56e4d"), looks := false }, kinds := [], alts := [], laidByText := true, laidKinds := [.data, .data, .data], laidTests := true, laidLooks := .later }
def WaitlistRoomCardSaid : Prop := Claim7.holds Tryd.pinned (.plain (OpenSpec.ofChange waitlistRoomSpec)) waitlistRoomCard

/-- THE TIED CARD OF 'airlinelaw11.ConnectTimes'. -/
def connectTimesCard : Claim7 := { stood := { row := connectTimesRow, standIns := [], harness := (true, "e9f8ebc7aaec7e852614322485b983e39dc3b31b625449cf52234b6d5fe56e4d"), looks := false }, kinds := [], alts := [], laidByText := true, laidKinds := [.data, .data, .data], laidTests := true, laidLooks := .later }
def ConnectTimesCardSaid : Prop := Claim7.holds Tryd.pinned (.plain (OpenSpec.ofChange connectTimesSpec)) connectTimesCard

/-- THE TIED CARD OF 'airlinelaw11.ConnectValid'. -/
def connectValidCard : Claim7 := { stood := { row := connectValidRow, standIns := [], harness := (true, "e9f8ebc7aaec7e852614322485b983e39dc3b31b625449cf52234b6d5fe56e4d"), looks := false }, kinds := [], alts := [], laidByText := true, laidKinds := [.data, .data, .data], laidTests := true, laidLooks := .later }
def ConnectValidCardSaid : Prop := Claim7.holds Tryd.pinned (.plain (OpenSpec.ofChange connectValidSpec)) connectValidCard

/-- THE TIED CARD OF 'airlinelaw11.ConnectPaths'. -/
def connectPathsCard : Claim7 := { stood := { row := connectPathsRow, standIns := [], harness := (true, "e9f8ebc7aaec7e852614322485b983e39dc3b31b625449cf52234b6d5fe56e4d"), looks := false }, kinds := [], alts := [], laidByText := true, laidKinds := [.data, .data, .data], laidTests := true, laidLooks := .later }
def ConnectPathsCardSaid : Prop := Claim7.holds Tryd.pinned (.plain (OpenSpec.ofChange connectPathsSpec)) connectPathsCard

/-- THE TIED CARD OF 'airlinelaw11.ConnectMany'. -/
def connectManyCard : Claim7 := { stood := { row := connectManyRow, standIns := [], harness := (true, "e9f8ebc7aaec7e852614322485b983e39dc3b31b625449cf52234b6d5fe56e4d"), looks := false }, kinds := [], alts := [], laidByText := true, laidKinds := [.data, .data, .data], laidTests := true, laidLooks := .later }
def ConnectManyCardSaid : Prop := Claim7.holds Tryd.pinned (.plain (OpenSpec.ofChange connectManySpec)) connectManyCard

/-- THE TIED CARD OF 'airlinelaw11.ConnectFollows'. -/
def connectFollowsCard : Claim7 := { stood := { row := connectFollowsRow, standIns := [], harness := (true, "e9f8ebc7aaec7e852614322485b983e39dc3b31b625449cf52234b6d5fe56e4d"), looks := false }, kinds := [], alts := [], laidByText := true, laidKinds := [.data, .data, .data], laidTests := true, laidLooks := .later }
def ConnectFollowsCardSaid : Prop := Claim7.holds Tryd.pinned (.plain (OpenSpec.ofChange connectFollowsSpec)) connectFollowsCard

/-- THE SECOND FORM's CARD OF 'airlinelaw18.OfferRises'. -/
def offerRisesUptoCard : Claim7 := { stood := { row := offerRisesUptoRow, standIns := [], harness := (true, "e9f8ebc7aaec7e852614322485b983e39dc3b31b625449cf52234b6d5fe56e4d"), looks := false }, kinds := [], alts := [], laidByText := true, laidKinds := [.data, .data, .data], laidTests := true, laidLooks := .later }
def OfferRisesUptoCardSaid : Prop := Claim7.holds Tryd.pinned (.plain (OpenSpec.upto offerRisesSpec)) offerRisesUptoCard

/-- THE SECOND FORM's CARD OF 'airlinelaw58.AuditTickets'. -/
def auditTicketsUptoCard : Claim7 := { stood := { row := auditTicketsUptoRow, standIns := [], harness := (true, "e9f8ebc7aaec7e852614322485b983e39dc3b31b625449cf52234b6d5fe56e4d"), looks := false }, kinds := [], alts := [], laidByText := true, laidKinds := [.data, .data, .data, .data, .pinned], laidTests := true, laidLooks := .later }
def AuditTicketsUptoCardSaid : Prop := Claim7.holds Tryd.pinned (.plain (OpenSpec.upto auditTicketsSpec)) auditTicketsUptoCard

/-- THE SECOND FORM's CARD OF 'airlinelaw19.WaitlistNil'. -/
def waitlistNilUptoCard : Claim7 := { stood := { row := waitlistNilUptoRow, standIns := [], harness := (true, "e9f8ebc7aaec7e852614322485b983e39dc3b31b625449cf52234b6d5fe56e4d"), looks := false }, kinds := [], alts := [], laidByText := true, laidKinds := [.data, .data, .data], laidTests := true, laidLooks := .later }
def WaitlistNilUptoCardSaid : Prop := Claim7.holds Tryd.pinned (.plain (OpenSpec.upto waitlistNilSpec)) waitlistNilUptoCard

/-- THE SECOND FORM's CARD OF 'airlinelaw19.WaitlistRoom'. -/
def waitlistRoomUptoCard : Claim7 := { stood := { row := waitlistRoomUptoRow, standIns := [], harness := (true, "e9f8ebc7aaec7e852614322485b983e39dc3b31b625449cf52234b6d5fe56e4d"), looks := false }, kinds := [], alts := [], laidByText := true, laidKinds := [.data, .data, .data], laidTests := true, laidLooks := .later }
def WaitlistRoomUptoCardSaid : Prop := Claim7.holds Tryd.pinned (.plain (OpenSpec.upto waitlistRoomSpec)) waitlistRoomUptoCard

/-- THE SECOND FORM's CARD OF 'airlinelaw11.ConnectTimes'. -/
def connectTimesUptoCard : Claim7 := { stood := { row := connectTimesUptoRow, standIns := [], harness := (true, "e9f8ebc7aaec7e852614322485b983e39dc3b31b625449cf52234b6d5fe56e4d"), looks := false }, kinds := [], alts := [], laidByText := true, laidKinds := [.data, .data, .data], laidTests := true, laidLooks := .later }
def ConnectTimesUptoCardSaid : Prop := Claim7.holds Tryd.pinned (.plain (OpenSpec.upto connectTimesSpec)) connectTimesUptoCard

/-- THE SECOND FORM's CARD OF 'airlinelaw11.ConnectValid'. -/
def connectValidUptoCard : Claim7 := { stood := { row := connectValidUptoRow, standIns := [], harness := (true, "e9f8ebc7aaec7e852614322485b983e39dc3b31b625449cf52234b6d5fe56e4d"), looks := false }, kinds := [], alts := [], laidByText := true, laidKinds := [.data, .data, .data], laidTests := true, laidLooks := .later }
def ConnectValidUptoCardSaid : Prop := Claim7.holds Tryd.pinned (.plain (OpenSpec.upto connectValidSpec)) connectValidUptoCard

/-- THE SECOND FORM's CARD OF 'airlinelaw11.ConnectPaths'. -/
def connectPathsUptoCard : Claim7 := { stood := { row := connectPathsUptoRow, standIns := [], harness := (true, "e9f8ebc7aaec7e852614322485b983e39dc3b31b625449cf52234b6d5fe56e4d"), looks := false }, kinds := [], alts := [], laidByText := true, laidKinds := [.data, .data, .data], laidTests := true, laidLooks := .later }
def ConnectPathsUptoCardSaid : Prop := Claim7.holds Tryd.pinned (.plain (OpenSpec.upto connectPathsSpec)) connectPathsUptoCard

/-- THE SECOND FORM's CARD OF 'airlinelaw11.ConnectMany'. -/
def connectManyUptoCard : Claim7 := { stood := { row := connectManyUptoRow, standIns := [], harness := (true, "e9f8ebc7aaec7e852614322485b983e39dc3b31b625449cf52234b6d5fe56e4d"), looks := false }, kinds := [], alts := [], laidByText := true, laidKinds := [.data, .data, .data], laidTests := true, laidLooks := .later }
def ConnectManyUptoCardSaid : Prop := Claim7.holds Tryd.pinned (.plain (OpenSpec.upto connectManySpec)) connectManyUptoCard

/-- THE SECOND FORM's CARD OF 'airlinelaw11.ConnectFollows'. -/
def connectFollowsUptoCard : Claim7 := { stood := { row := connectFollowsUptoRow, standIns := [], harness := (true, "e9f8ebc7aaec7e852614322485b983e39dc3b31b625449cf52234b6d5fe56e4d"), looks := false }, kinds := [], alts := [], laidByText := true, laidKinds := [.data, .data, .data], laidTests := true, laidLooks := .later }
def ConnectFollowsUptoCardSaid : Prop := Claim7.holds Tryd.pinned (.plain (OpenSpec.upto connectFollowsSpec)) connectFollowsUptoCard
end Rows
end Go.Proofs.YteffefjkcappbaaDoor
