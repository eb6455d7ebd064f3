/-
  DERIVED. GIVEN WITH THE SEED: THE CARDS: each row of YtlamgjbngblefaaDoorRows.lean that lists a variable, with what it lists TIED to the program's text (the seventh form; the later family's looks); each row that meets fmt, with fmt's text TOLD by the authors' own Lean function (tested against real Go, not proved from fmt's source: count such statements apart). THE CARD IS WHAT COUNTS. Prove the row's statement (the work); the ties are given (YtlamgjbngblefaaDoorTie.lean); close each card by the builder's one call (the guide's Derived/Test/ToyasCard.lean, 'card_holds'). Laid BY PROGRAM, IN A SANDBOX (cutbox-door.mjs). By AI agents, Wed Nov 11 2026. No macro, syntax, notation, axiom, sorry.
-/
import Derived.Test.YtlamgjbngblefaaDoorRows
import GoSem.ClaimSeven
namespace Go.Proofs.YtlamgjbngblefaaDoor
namespace Rows

/-- THE TIED CARD OF 'airlinelaw18.OfferRises'. -/
def offerRisesCard : Claim7 := { stood := { row := offerRisesRow, standIns := [], harness := (true, "fc0a9ae03f440ac52681d7f2de40fb99c9b2c7560de2fbfa8fad92c8238b951d"), looks := false }, kinds := [], alts := [], laidByText := true, laidKinds := [.data, .data, .data], laidTests := true, laidLooks := .later }
def OfferRisesCardSaid : Prop := Claim7.holds Tryd.pinned (.plain (OpenSpec.ofChange offerRisesSpec)) offerRisesCard

/-- THE SECOND FORM's CARD OF 'airlinelaw18.OfferRises'. -/
def offerRisesUptoCard : Claim7 := { stood := { row := offerRisesUptoRow, standIns := [], harness := (true, "fc0a9ae03f440ac52681d7f2de40fb99c9b2c7560de2fbfa8fad92c8238b951d"), looks := false }, kinds := [], alts := [], laidByText := true, laidKinds := [.data, .data, .data], laidTests := true, laidLooks := .later }
def OfferRisesUptoCardSaid : Prop := Claim7.holds Tryd.pinned (.plain (OpenSpec.upto offerRisesSpec)) offerRisesUptoCard
end Rows
end Go.Proofs.YtlamgjbngblefaaDoor
