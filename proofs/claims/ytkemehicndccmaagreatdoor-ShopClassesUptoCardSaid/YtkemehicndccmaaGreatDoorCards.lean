/-
  DERIVED. GIVEN WITH THE SEED: THE CARDS: each row of YtkemehicndccmaaGreatDoorRows.lean that lists a variable, with what it lists TIED to the program's text (the seventh form; the later family's looks); each row that meets fmt, with fmt's text TOLD by the authors' own Lean function (tested against real Go, not proved from fmt's source: count such statements apart). THE CARD IS WHAT COUNTS. Prove the row's statement (the work); the ties are given (YtkemehicndccmaaGreatDoorTie.lean); close each card by the builder's one call (the guide's Derived/Test/ToyasCard.lean, 'card_holds'). Laid BY PROGRAM, IN A SANDBOX (cutbox-door.mjs). By AI agents, Wed Nov 11 2026. No macro, syntax, notation, axiom, sorry.
-/
import Derived.Test.YtkemehicndccmaaGreatDoorRows
import GoSem.ClaimSeven
namespace Go.Proofs.YtkemehicndccmaaGreatDoor
namespace Rows

/-- THE TIED CARD OF 'airlinelaw30.ShopClasses'. -/
def shopClassesCard : Claim7 := { stood := { row := shopClassesRow, standIns := [], harness := (true, "c4bb727d9b880401b3fc27a3b4ae4a5db6161a9ff0321c70636d1c651cfbce5d"), looks := false }, kinds := [], alts := [], laidByText := true, laidKinds := [.data, .data, .data], laidTests := true, laidLooks := .later }
def ShopClassesCardSaid : Prop := Claim7.holds Tryz.pinned (.plain (OpenSpec.ofChange shopClassesSpec)) shopClassesCard

/-- THE SECOND FORM's CARD OF 'airlinelaw30.ShopClasses'. -/
def shopClassesUptoCard : Claim7 := { stood := { row := shopClassesUptoRow, standIns := [], harness := (true, "c4bb727d9b880401b3fc27a3b4ae4a5db6161a9ff0321c70636d1c651cfbce5d"), looks := false }, kinds := [], alts := [], laidByText := true, laidKinds := [.data, .data, .data], laidTests := true, laidLooks := .later }
def ShopClassesUptoCardSaid : Prop := Claim7.holds Tryz.pinned (.plain (OpenSpec.upto shopClassesSpec)) shopClassesUptoCard
end Rows
end Go.Proofs.YtkemehicndccmaaGreatDoor
