/-
  DERIVED. GIVEN WITH THE SEED: THE CARDS: each row of YticflebneoebkaaDoorRows.lean that lists a variable, with what it lists TIED to the program's text (the seventh form; the later family's looks); each row that meets fmt, with fmt's text TOLD by the authors' own Lean function (tested against real Go, not proved from fmt's source: count such statements apart). THE CARD IS WHAT COUNTS. Prove the row's statement (the work); the ties are given (YticflebneoebkaaDoorTie.lean); close each card by the builder's one call (the guide's Derived/Test/ToyasCard.lean, 'card_holds'). Laid BY PROGRAM, IN A SANDBOX (cutbox-door.mjs). By AI agents, Wed Nov 11 2026. No macro, syntax, notation, axiom, sorry.
-/
import Derived.Test.YticflebneoebkaaDoorRows
import GoSem.ClaimSeven
namespace Go.Proofs.YticflebneoebkaaDoor
namespace Rows

/-- THE TIED CARD OF 'airlinelaw18.OfferShown'. -/
def offerShownCard : Claim7 := { stood := { row := offerShownRow, standIns := [], harness := (true, "dd79482ed999a0a8a737b06b5f89cdaf581adf182cb5b7ac0de2a721e1e1ba2f"), looks := false }, kinds := [], alts := [], laidByText := true, laidKinds := [.data, .data, .data], laidTests := true, laidLooks := .later }
def OfferShownCardSaid : Prop := Claim7.holds Tryd.pinned (.plain (OpenSpec.ofChange offerShownSpec)) offerShownCard

/-- THE TIED CARD OF 'airlinelaw18.OfferRises'. -/
def offerRisesCard : Claim7 := { stood := { row := offerRisesRow, standIns := [], harness := (true, "dd79482ed999a0a8a737b06b5f89cdaf581adf182cb5b7ac0de2a721e1e1ba2f"), looks := false }, kinds := [], alts := [], laidByText := true, laidKinds := [.data, .data, .data], laidTests := true, laidLooks := .later }
def OfferRisesCardSaid : Prop := Claim7.holds Tryd.pinned (.plain (OpenSpec.ofChange offerRisesSpec)) offerRisesCard

/-- THE TIED CARD OF 'airlinelaw19.WaitlistNil'. -/
def waitlistNilCard : Claim7 := { stood := { row := waitlistNilRow, standIns := [], harness := (true, "dd79482ed999a0a8a737b06b5f89cdaf581adf182cb5b7ac0de2a721e1e1ba2f"), looks := false }, kinds := [], alts := [], laidByText := true, laidKinds := [.data, .data, .data], laidTests := true, laidLooks := .later }
def WaitlistNilCardSaid : Prop := Claim7.holds Tryd.pinned (.plain (OpenSpec.ofChange waitlistNilSpec)) waitlistNilCard

/-- THE TIED CARD OF 'airlinelaw19.WaitlistRoom'. -/
def waitlistRoomCard : Claim7 := { stood := { row := waitlistRoomRow, standIns := [], harness := (true, "dd79482ed999a0a8a737b06b5f89cdaf581adf182cb5b7ac0de2a721e1e1ba2f"), looks := false }, kinds := [], alts := [], laidByText := true, laidKinds := [.data, .data, .data], laidTests := true, laidLooks := .later }
def WaitlistRoomCardSaid : Prop := Claim7.holds Tryd.pinned (.plain (OpenSpec.ofChange waitlistRoomSpec)) waitlistRoomCard

/-- THE SECOND FORM's CARD OF 'airlinelaw18.OfferShown'. -/
def offerShownUptoCard : Claim7 := { stood := { row := offerShownUptoRow, standIns := [], harness := (true, "dd79482ed999a0a8a737b06b5f89cdaf581adf182cb5b7ac0de2a721e1e1ba2f"), looks := false }, kinds := [], alts := [], laidByText := true, laidKinds := [.data, .data, .data], laidTests := true, laidLooks := .later }
def OfferShownUptoCardSaid : Prop := Claim7.holds Tryd.pinned (.plain (OpenSpec.upto offerShownSpec)) offerShownUptoCard

/-- THE SECOND FORM's CARD OF 'airlinelaw18.OfferRises'. -/
def offerRisesUptoCard : Claim7 := { stood := { row := offerRisesUptoRow, standIns := [], harness := (true, "dd79482ed999a0a8a737b06b5f89cdaf581adf182cb5b7ac0de2a721e1e1ba2f"), looks := false }, kinds := [], alts := [], laidByText := true, laidKinds := [.data, .data, .data], laidTests := true, laidLooks := .later }
def OfferRisesUptoCardSaid : Prop := Claim7.holds Tryd.pinned (.plain (OpenSpec.upto offerRisesSpec)) offerRisesUptoCard

/-- THE SECOND FORM's CARD OF 'airlinelaw19.WaitlistNil'. -/
def waitlistNilUptoCard : Claim7 := { stood := { row := waitlistNilUptoRow, standIns := [], harness := (true, "dd79482ed999a0a8a737b06b5f89cdaf581adf182cb5b7ac0de2a721e1e1ba2f"), looks := false }, kinds := [], alts := [], laidByText := true, laidKinds := [.data, .data, .data], laidTests := true, laidLooks := .later }
def WaitlistNilUptoCardSaid : Prop := Claim7.holds Tryd.pinned (.plain (OpenSpec.upto waitlistNilSpec)) waitlistNilUptoCard

/-- THE SECOND FORM's CARD OF 'airlinelaw19.WaitlistRoom'. -/
def waitlistRoomUptoCard : Claim7 := { stood := { row := waitlistRoomUptoRow, standIns := [], harness := (true, "dd79482ed999a0a8a737b06b5f89cdaf581adf182cb5b7ac0de2a721e1e1ba2f"), looks := false }, kinds := [], alts := [], laidByText := true, laidKinds := [.data, .data, .data], laidTests := true, laidLooks := .later }
def WaitlistRoomUptoCardSaid : Prop := Claim7.holds Tryd.pinned (.plain (OpenSpec.upto waitlistRoomSpec)) waitlistRoomUptoCard
end Rows
end Go.Proofs.YticflebneoebkaaDoor
