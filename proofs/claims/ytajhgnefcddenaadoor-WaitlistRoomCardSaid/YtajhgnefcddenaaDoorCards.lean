/-
  DERIVED. GIVEN WITH THE SEED: THE CARDS: each row of YtajhgnefcddenaaDoorRows.lean that lists a variable, with what it lists TIED to the program's text (the seventh form; the later family's looks); each row that meets fmt, with fmt's text TOLD by the authors' own Lean function (tested against real Go, not proved from fmt's source: count such statements apart). THE CARD IS WHAT COUNTS. Prove the row's statement (the work); the ties are given (YtajhgnefcddenaaDoorTie.lean); close each card by the builder's one call (the guide's Derived/Test/ToyasCard.lean, 'card_holds'). Laid BY PROGRAM, IN A SANDBOX (cutbox-door.mjs). By AI agents, Wed Nov 11 2026. No macro, syntax, notation, axiom, sorry.
-/
import Derived.Test.YtajhgnefcddenaaDoorRows
import GoSem.ClaimSeven
namespace Go.Proofs.YtajhgnefcddenaaDoor
namespace Rows

/-- THE TIED CARD OF 'airlinelaw19.WaitlistNil'. -/
def waitlistNilCard : Claim7 := { stood := { row := waitlistNilRow, standIns := [], harness := (true, "63ef196a57b6c6b7526f64ec7f6dadf4d720f7a5f3b1c7b1b95beec7f094db4b"), looks := false }, kinds := [], alts := [], laidByText := true, laidKinds := [.data, .data, .data], laidTests := true, laidLooks := .later }
def WaitlistNilCardSaid : Prop := Claim7.holds Tryd.pinned (.plain (OpenSpec.ofChange waitlistNilSpec)) waitlistNilCard

/-- THE TIED CARD OF 'airlinelaw19.WaitlistRoom'. -/
def waitlistRoomCard : Claim7 := { stood := { row := waitlistRoomRow, standIns := [], harness := (true, "63ef196a57b6c6b7526f64ec7f6dadf4d720f7a5f3b1c7b1b95beec7f094db4b"), looks := false }, kinds := [], alts := [], laidByText := true, laidKinds := [.data, .data, .data], laidTests := true, laidLooks := .later }
def WaitlistRoomCardSaid : Prop := Claim7.holds Tryd.pinned (.plain (OpenSpec.ofChange waitlistRoomSpec)) waitlistRoomCard

/-- THE SECOND FORM's CARD OF 'airlinelaw19.WaitlistNil'. -/
def waitlistNilUptoCard : Claim7 := { stood := { row := waitlistNilUptoRow, standIns := [], harness := (true, "63ef196a57b6c6b7526f64ec7f6dadf4d720f7a5f3b1c7b1b95beec7f094db4b"), looks := false }, kinds := [], alts := [], laidByText := true, laidKinds := [.data, .data, .data], laidTests := true, laidLooks := .later }
def WaitlistNilUptoCardSaid : Prop := Claim7.holds Tryd.pinned (.plain (OpenSpec.upto waitlistNilSpec)) waitlistNilUptoCard

/-- THE SECOND FORM's CARD OF 'airlinelaw19.WaitlistRoom'. -/
def waitlistRoomUptoCard : Claim7 := { stood := { row := waitlistRoomUptoRow, standIns := [], harness := (true, "63ef196a57b6c6b7526f64ec7f6dadf4d720f7a5f3b1c7b1b95beec7f094db4b"), looks := false }, kinds := [], alts := [], laidByText := true, laidKinds := [.data, .data, .data], laidTests := true, laidLooks := .later }
def WaitlistRoomUptoCardSaid : Prop := Claim7.holds Tryd.pinned (.plain (OpenSpec.upto waitlistRoomSpec)) waitlistRoomUptoCard
end Rows
end Go.Proofs.YtajhgnefcddenaaDoor
