/-
  DERIVED. GIVEN WITH THE SEED: THE CARDS: each row of YthkbiiammhekfaaGreatDoorRows.lean that lists a variable, with what it lists TIED to the program's text (the seventh form; the later family's looks); each row that meets fmt, with fmt's text TOLD by the authors' own Lean function (tested against real Go, not proved from fmt's source: count such statements apart). THE CARD IS WHAT COUNTS. Prove the row's statement (the work); the ties are given (YthkbiiammhekfaaGreatDoorTie.lean); close each card by the builder's one call (the guide's Derived/Test/ToyasCard.lean, 'card_holds'). Laid BY PROGRAM, IN A SANDBOX (cutbox-door.mjs). By AI agents, Wed Nov 11 2026. No macro, syntax, notation, axiom, sorry.
-/
import Derived.Test.YthkbiiammhekfaaGreatDoorRows
import GoSem.ClaimSeven
namespace Go.Proofs.YthkbiiammhekfaaGreatDoor
namespace Rows

/-- THE TIED CARD OF 'airlinelaw19.WaitlistPlays'. -/
def waitlistPlaysCard : Claim7 := { stood := { row := waitlistPlaysRow, standIns := [], harness := (true, "8372c30f6868a3f51345938bb309a838265f6e2687ed96a980d3eaa81237e1f0"), looks := false }, kinds := [], alts := [], laidByText := true, laidKinds := [.data, .data, .data], laidTests := true, laidLooks := .later }
def WaitlistPlaysCardSaid : Prop := Claim7.holds Tryz.pinned (.plain (OpenSpec.ofChange waitlistPlaysSpec)) waitlistPlaysCard

/-- THE TIED CARD OF 'airlinelaw19.WaitlistClears'. -/
def waitlistClearsCard : Claim7 := { stood := { row := waitlistClearsRow, standIns := [], harness := (true, "8372c30f6868a3f51345938bb309a838265f6e2687ed96a980d3eaa81237e1f0"), looks := false }, kinds := [], alts := [], laidByText := true, laidKinds := [.data, .data, .data], laidTests := true, laidLooks := .later }
def WaitlistClearsCardSaid : Prop := Claim7.holds Tryz.pinned (.plain (OpenSpec.ofChange waitlistClearsSpec)) waitlistClearsCard

/-- THE TIED CARD OF 'airlinelaw58.AuditSeats'. -/
def auditSeatsCard : Claim7 := { stood := { row := auditSeatsRow, standIns := [], harness := (true, "8372c30f6868a3f51345938bb309a838265f6e2687ed96a980d3eaa81237e1f0"), looks := false }, kinds := [], alts := [], laidByText := true, laidKinds := [.data, .data, .data, .data, .pinned], laidTests := true, laidLooks := .later }
def AuditSeatsCardSaid : Prop := Claim7.holds Tryz.pinned (.plain (OpenSpec.ofChange auditSeatsSpec)) auditSeatsCard

/-- THE SECOND FORM's CARD OF 'airlinelaw19.WaitlistPlays'. -/
def waitlistPlaysUptoCard : Claim7 := { stood := { row := waitlistPlaysUptoRow, standIns := [], harness := (true, "8372c30f6868a3f51345938bb309a838265f6e2687ed96a980d3eaa81237e1f0"), looks := false }, kinds := [], alts := [], laidByText := true, laidKinds := [.data, .data, .data], laidTests := true, laidLooks := .later }
def WaitlistPlaysUptoCardSaid : Prop := Claim7.holds Tryz.pinned (.plain (OpenSpec.upto waitlistPlaysSpec)) waitlistPlaysUptoCard

/-- THE SECOND FORM's CARD OF 'airlinelaw19.WaitlistClears'. -/
def waitlistClearsUptoCard : Claim7 := { stood := { row := waitlistClearsUptoRow, standIns := [], harness := (true, "8372c30f6868a3f51345938bb309a838265f6e2687ed96a980d3eaa81237e1f0"), looks := false }, kinds := [], alts := [], laidByText := true, laidKinds := [.data, .data, .data], laidTests := true, laidLooks := .later }
def WaitlistClearsUptoCardSaid : Prop := Claim7.holds Tryz.pinned (.plain (OpenSpec.upto waitlistClearsSpec)) waitlistClearsUptoCard

/-- THE SECOND FORM's CARD OF 'airlinelaw58.AuditSeats'. -/
def auditSeatsUptoCard : Claim7 := { stood := { row := auditSeatsUptoRow, standIns := [], harness := (true, "8372c30f6868a3f51345938bb309a838265f6e2687ed96a980d3eaa81237e1f0"), looks := false }, kinds := [], alts := [], laidByText := true, laidKinds := [.data, .data, .data, .data, .pinned], laidTests := true, laidLooks := .later }
def AuditSeatsUptoCardSaid : Prop := Claim7.holds Tryz.pinned (.plain (OpenSpec.upto auditSeatsSpec)) auditSeatsUptoCard
end Rows
end Go.Proofs.YthkbiiammhekfaaGreatDoor
