/-
  DERIVED. GIVEN WITH THE SEED: THE CARDS: each row of YtgfbblpkddahbaaDoorRows.lean that lists a variable, with what it lists TIED to the program's text (the seventh form; the later family's looks); each row that meets fmt, with fmt's text TOLD by the authors' own Lean function (tested against real Go, not proved from fmt's source: count such statements apart). THE CARD IS WHAT COUNTS. Prove the row's statement (the work); the ties are given (YtgfbblpkddahbaaDoorTie.lean); close each card by the builder's one call (the guide's Derived/Test/ToyasCard.lean, 'card_holds'). Laid BY PROGRAM, IN A SANDBOX (cutbox-door.mjs). By AI agents, Wed Nov 11 2026. No macro, syntax, notation, axiom, sorry.
-/
import Derived.Test.YtgfbblpkddahbaaDoorRows
import GoSem.ClaimSeven
namespace Go.Proofs.YtgfbblpkddahbaaDoor
namespace Rows

/-- THE TIED CARD OF 'airlinelaw58.AuditMoney'. -/
def auditMoneyCard : Claim7 := { stood := { row := auditMoneyRow, standIns := [], harness := (true, "5ddd1137ee355e1d1c8e31328a3dcf686bb12f88b5562de68ba3b5634701e28e"), looks := false }, kinds := [], alts := [], laidByText := true, laidKinds := [.data, .data, .data, .data, .pinned], laidTests := true, laidLooks := .later }
def AuditMoneyCardSaid : Prop := Claim7.holds Tryd.pinned (.plain (OpenSpec.ofChange auditMoneySpec)) auditMoneyCard

/-- THE TIED CARD OF 'airlinelaw58.AuditRecords'. -/
def auditRecordsCard : Claim7 := { stood := { row := auditRecordsRow, standIns := [], harness := (true, "5ddd1137ee355e1d1c8e31328a3dcf686bb12f88b5562de68ba3b5634701e28e"), looks := false }, kinds := [], alts := [], laidByText := true, laidKinds := [.data, .data, .data, .data, .pinned], laidTests := true, laidLooks := .later }
def AuditRecordsCardSaid : Prop := Claim7.holds Tryd.pinned (.plain (OpenSpec.ofChange auditRecordsSpec)) auditRecordsCard

/-- THE TIED CARD OF 'airlinelaw19.WaitlistNil'. -/
def waitlistNilCard : Claim7 := { stood := { row := waitlistNilRow, standIns := [], harness := (true, "5ddd1137ee355e1d1c8e31328a3dcf686bb12f88b5562de68ba3b5634701e28e"), looks := false }, kinds := [], alts := [], laidByText := true, laidKinds := [.data, .data, .data], laidTests := true, laidLooks := .later }
def WaitlistNilCardSaid : Prop := Claim7.holds Tryd.pinned (.plain (OpenSpec.ofChange waitlistNilSpec)) waitlistNilCard

/-- THE TIED CARD OF 'airlinelaw19.WaitlistRoom'. -/
def waitlistRoomCard : Claim7 := { stood := { row := waitlistRoomRow, standIns := [], harness := (true, "5ddd1137ee355e1d1c8e31328a3dcf686bb12f88b5562de68ba3b5634701e28e"), looks := false }, kinds := [], alts := [], laidByText := true, laidKinds := [.data, .data, .data], laidTests := true, laidLooks := .later }
def WaitlistRoomCardSaid : Prop := Claim7.holds Tryd.pinned (.plain (OpenSpec.ofChange waitlistRoomSpec)) waitlistRoomCard

/-- THE TIED CARD OF 'airlinelaw11.ConnectTimes'. -/
def connectTimesCard : Claim7 := { stood := { row := connectTimesRow, standIns := [], harness := (true, "5ddd1137ee355e1d1c8e31328a3dcf686bb12f88b5562de68ba3b5634701e28e"), looks := false }, kinds := [], alts := [], laidByText := true, laidKinds := [.data, .data, .data], laidTests := true, laidLooks := .later }
def ConnectTimesCardSaid : Prop := Claim7.holds Tryd.pinned (.plain (OpenSpec.ofChange connectTimesSpec)) connectTimesCard

/-- THE TIED CARD OF 'airlinelaw11.ConnectValid'. -/
def connectValidCard : Claim7 := { stood := { row := connectValidRow, standIns := [], harness := (true, "5ddd1137ee355e1d1c8e31328a3dcf686bb12f88b5562de68ba3b5634701e28e"), looks := false }, kinds := [], alts := [], laidByText := true, laidKinds := [.data, .data, .data], laidTests := true, laidLooks := .later }
def ConnectValidCardSaid : Prop := Claim7.holds Tryd.pinned (.plain (OpenSpec.ofChange connectValidSpec)) connectValidCard

/-- THE SECOND FORM's CARD OF 'airlinelaw58.AuditMoney'. -/
def auditMoneyUptoCard : Claim7 := { stood := { row := auditMoneyUptoRow, standIns := [], harness := (true, "5ddd1137ee355e1d1c8e31328a3dcf686bb12f88b5562de68ba3b5634701e28e"), looks := false }, kinds := [], alts := [], laidByText := true, laidKinds := [.data, .data, .data, .data, .pinned], laidTests := true, laidLooks := .later }
def AuditMoneyUptoCardSaid : Prop := Claim7.holds Tryd.pinned (.plain (OpenSpec.upto auditMoneySpec)) auditMoneyUptoCard

/-- THE SECOND FORM's CARD OF 'airlinelaw58.AuditRecords'. -/
def auditRecordsUptoCard : Claim7 := { stood := { row := auditRecordsUptoRow, standIns := [], harness := (true, "5ddd1137ee355e1d1c8e31328a3dcf686bb12f88b5562de68ba3b5634701e28e"), looks := false }, kinds := [], alts := [], laidByText := true, laidKinds := [.data, .data, .data, .data, .pinned], laidTests := true, laidLooks := .later }
def AuditRecordsUptoCardSaid : Prop := Claim7.holds Tryd.pinned (.plain (OpenSpec.upto auditRecordsSpec)) auditRecordsUptoCard

/-- THE SECOND FORM's CARD OF 'airlinelaw19.WaitlistNil'. -/
def waitlistNilUptoCard : Claim7 := { stood := { row := waitlistNilUptoRow, standIns := [], harness := (true, "5ddd1137ee355e1d1c8e31328a3dcf686bb12f88b5562de68ba3b5634701e28e"), looks := false }, kinds := [], alts := [], laidByText := true, laidKinds := [.data, .data, .data], laidTests := true, laidLooks := .later }
def WaitlistNilUptoCardSaid : Prop := Claim7.holds Tryd.pinned (.plain (OpenSpec.upto waitlistNilSpec)) waitlistNilUptoCard

/-- THE SECOND FORM's CARD OF 'airlinelaw19.WaitlistRoom'. -/
def waitlistRoomUptoCard : Claim7 := { stood := { row := waitlistRoomUptoRow, standIns := [], harness := (true, "5ddd1137ee355e1d1c8e31328a3dcf686bb12f88b5562de68ba3b5634701e28e"), looks := false }, kinds := [], alts := [], laidByText := true, laidKinds := [.data, .data, .data], laidTests := true, laidLooks := .later }
def WaitlistRoomUptoCardSaid : Prop := Claim7.holds Tryd.pinned (.plain (OpenSpec.upto waitlistRoomSpec)) waitlistRoomUptoCard

/-- THE SECOND FORM's CARD OF 'airlinelaw11.ConnectTimes'. -/
def connectTimesUptoCard : Claim7 := { stood := { row := connectTimesUptoRow, standIns := [], harness := (true, "5ddd1137ee355e1d1c8e31328a3dcf686bb12f88b5562de68ba3b5634701e28e"), looks := false }, kinds := [], alts := [], laidByText := true, laidKinds := [.data, .data, .data], laidTests := true, laidLooks := .later }
def ConnectTimesUptoCardSaid : Prop := Claim7.holds Tryd.pinned (.plain (OpenSpec.upto connectTimesSpec)) connectTimesUptoCard

/-- THE SECOND FORM's CARD OF 'airlinelaw11.ConnectValid'. -/
def connectValidUptoCard : Claim7 := { stood := { row := connectValidUptoRow, standIns := [], harness := (true, "5ddd1137ee355e1d1c8e31328a3dcf686bb12f88b5562de68ba3b5634701e28e"), looks := false }, kinds := [], alts := [], laidByText := true, laidKinds := [.data, .data, .data], laidTests := true, laidLooks := .later }
def ConnectValidUptoCardSaid : Prop := Claim7.holds Tryd.pinned (.plain (OpenSpec.upto connectValidSpec)) connectValidUptoCard
end Rows
end Go.Proofs.YtgfbblpkddahbaaDoor
