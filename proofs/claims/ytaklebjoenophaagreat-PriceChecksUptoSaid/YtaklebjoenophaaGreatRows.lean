/-
  NARROWER THAN 'FOR EVERY INPUT', by the rows' own cells (each row's printed sentence says how): PriceQuotes: loops · PriceChecks: loops · PriceLeast: loops · PriceOrders: loops · PriceFewer: loops.
  DERIVED. THE GIVEN ROWS OF THIS SEAT. 5 by the template 'for every input the law returns true; each argument reads behind the call as it read before'; 0 by the template 'total and deterministic' (their statements: YtaklebjoenophaaGreatTotals.lean).
  GIVEN WITH THE SEED: the statements are not yours to turn. If you find one false, say at which input.
  Laid BY PROGRAM, IN A SANDBOX (cutbox-rows.mjs): the forced cells as the released guide's own fill.sh prints them over the translation 25c23af430fd756b… (all of the seat's roots in one cut). By AI agents, Wed Nov 11 2026. No macro, syntax, notation, axiom, sorry.
-/
import Derived.Test.YtaklebjoenophaaGreatChecked
import GoSem.Claim
import GoSem.ClaimJoined
import GoSem.ClaimMapViews
import Derived.JoinedTies
import Derived.KernelRfl
namespace Go.Proofs.YtaklebjoenophaaGreat
/- THE CELL 'sum', in the pinned program and in every row, IS THE sha256 OF THE DUMP (.gsa) THAT YtaklebjoenophaaGreatProg.lean LOADS. Nothing in Lean hashes anything: it is a label: what it is worth is what the hold of that sum in a sandbox is worth. -/
noncomputable def Tryz.pinned : Pinned := { name := "ytaklebjoenophaagreat", sum := "25c23af430fd756ba7a3ffbf7b1da461170b6f944d017904d1f85b52419eb4e7", checked := Tryz.checked }
namespace Rows
def none {H : Type} : Left H := { results := [], args := [] }

/-- 'airlinelaw28.PriceQuotes': WHATEVER THE INPUT: true; the input reads as it did. -/
def priceQuotesSpec : ChangeSpec := { name := "priceQuotes", fn := fun _ => fun
  | [d] => { results := [.lit (.bool true)], args := [d] }
  | _ => none }
def priceQuotesRow : OpenClaim := { program := "ytaklebjoenophaagreat", sum := "25c23af430fd756ba7a3ffbf7b1da461170b6f944d017904d1f85b52419eb4e7", func := "airline/airlinelaw28.PriceQuotes", spec := "priceQuotes", unfollowed := true, recurses := true, named := ["math/bits.divideError", "math/bits.overflowError"], loops := true, apart := false }
def PriceQuotesSaid : Prop := priceQuotesRow.holds Tryz.pinned (OpenSpec.ofChange priceQuotesSpec)

/-- ITS FALSE NEIGHBOUR: 'it returns false'. Refute it at one input. -/
def priceQuotesWrong : ChangeSpec := { name := "priceQuotes", fn := fun _ => fun
  | [d] => { results := [.lit (.bool false)], args := [d] }
  | _ => none }
def PriceQuotesWrongFalsely : Prop := priceQuotesRow.holds Tryz.pinned (OpenSpec.ofChange priceQuotesWrong)

/-- 'airlinelaw28.PriceChecks': WHATEVER THE INPUT: true; the input reads as it did. -/
def priceChecksSpec : ChangeSpec := { name := "priceChecks", fn := fun _ => fun
  | [d1, d2] => { results := [.lit (.bool true)], args := [d1, d2] }
  | _ => none }
def priceChecksRow : OpenClaim := { program := "ytaklebjoenophaagreat", sum := "25c23af430fd756ba7a3ffbf7b1da461170b6f944d017904d1f85b52419eb4e7", func := "airline/airlinelaw28.PriceChecks", spec := "priceChecks", unfollowed := true, recurses := true, named := ["math/bits.divideError", "math/bits.overflowError"], loops := true, apart := false }
def PriceChecksSaid : Prop := priceChecksRow.holds Tryz.pinned (OpenSpec.ofChange priceChecksSpec)

/-- ITS FALSE NEIGHBOUR: 'it returns false'. Refute it at one input. -/
def priceChecksWrong : ChangeSpec := { name := "priceChecks", fn := fun _ => fun
  | [d1, d2] => { results := [.lit (.bool false)], args := [d1, d2] }
  | _ => none }
def PriceChecksWrongFalsely : Prop := priceChecksRow.holds Tryz.pinned (OpenSpec.ofChange priceChecksWrong)

/-- 'airlinelaw28.PriceLeast': WHATEVER THE INPUT: true; the input reads as it did. -/
def priceLeastSpec : ChangeSpec := { name := "priceLeast", fn := fun _ => fun
  | [d1, d2] => { results := [.lit (.bool true)], args := [d1, d2] }
  | _ => none }
def priceLeastRow : OpenClaim := { program := "ytaklebjoenophaagreat", sum := "25c23af430fd756ba7a3ffbf7b1da461170b6f944d017904d1f85b52419eb4e7", func := "airline/airlinelaw28.PriceLeast", spec := "priceLeast", unfollowed := true, recurses := true, named := ["math/bits.divideError", "math/bits.overflowError"], loops := true, apart := false }
def PriceLeastSaid : Prop := priceLeastRow.holds Tryz.pinned (OpenSpec.ofChange priceLeastSpec)

/-- ITS FALSE NEIGHBOUR: 'it returns false'. Refute it at one input. -/
def priceLeastWrong : ChangeSpec := { name := "priceLeast", fn := fun _ => fun
  | [d1, d2] => { results := [.lit (.bool false)], args := [d1, d2] }
  | _ => none }
def PriceLeastWrongFalsely : Prop := priceLeastRow.holds Tryz.pinned (OpenSpec.ofChange priceLeastWrong)

/-- 'airlinelaw28.PriceOrders': WHATEVER THE INPUT: true; the input reads as it did. -/
def priceOrdersSpec : ChangeSpec := { name := "priceOrders", fn := fun _ => fun
  | [d1, d2, d3] => { results := [.lit (.bool true)], args := [d1, d2, d3] }
  | _ => none }
def priceOrdersRow : OpenClaim := { program := "ytaklebjoenophaagreat", sum := "25c23af430fd756ba7a3ffbf7b1da461170b6f944d017904d1f85b52419eb4e7", func := "airline/airlinelaw28.PriceOrders", spec := "priceOrders", unfollowed := true, recurses := true, named := ["math/bits.divideError", "math/bits.overflowError"], loops := true, apart := false }
def PriceOrdersSaid : Prop := priceOrdersRow.holds Tryz.pinned (OpenSpec.ofChange priceOrdersSpec)

/-- ITS FALSE NEIGHBOUR: 'it returns false'. Refute it at one input. -/
def priceOrdersWrong : ChangeSpec := { name := "priceOrders", fn := fun _ => fun
  | [d1, d2, d3] => { results := [.lit (.bool false)], args := [d1, d2, d3] }
  | _ => none }
def PriceOrdersWrongFalsely : Prop := priceOrdersRow.holds Tryz.pinned (OpenSpec.ofChange priceOrdersWrong)

/-- 'airlinelaw28.PriceFewer': WHATEVER THE INPUT: true; the input reads as it did. -/
def priceFewerSpec : ChangeSpec := { name := "priceFewer", fn := fun _ => fun
  | [d] => { results := [.lit (.bool true)], args := [d] }
  | _ => none }
def priceFewerRow : OpenClaim := { program := "ytaklebjoenophaagreat", sum := "25c23af430fd756ba7a3ffbf7b1da461170b6f944d017904d1f85b52419eb4e7", func := "airline/airlinelaw28.PriceFewer", spec := "priceFewer", unfollowed := true, recurses := true, named := ["math/bits.divideError", "math/bits.overflowError"], loops := true, apart := false }
def PriceFewerSaid : Prop := priceFewerRow.holds Tryz.pinned (OpenSpec.ofChange priceFewerSpec)

/-- ITS FALSE NEIGHBOUR: 'it returns false'. Refute it at one input. -/
def priceFewerWrong : ChangeSpec := { name := "priceFewer", fn := fun _ => fun
  | [d] => { results := [.lit (.bool false)], args := [d] }
  | _ => none }
def PriceFewerWrongFalsely : Prop := priceFewerRow.holds Tryz.pinned (OpenSpec.ofChange priceFewerWrong)

/- THE SECOND FORM. 'bulk': how many values and letters a reading holds, each counted each time it is reached (what is shared counts as often as it is met; a slice's spare places count too). A statement '..UptoSaid' is the law's where the arguments, and the package variables that the reading takes, are together of bulk at most 1048576: NARROWER than '..Said'. Prove '..Said' where nothing that the law and all that it calls make is longer than what came in: it says more and counts as full. Else prove '..UptoSaid'. A law counts once. -/
mutual
def uptoBulk {H : Type} : DataW H → Nat
  | .lit (.string bytes) => bytes.length + 1
  | .lit _ => 1
  | .nil => 1
  | .ptr d => uptoBulk d + 1
  | .slice elems spare => uptoBulkAll elems + uptoBulkAll spare + 1
  | .agg parts => uptoBulkAll parts + 1
  | .iface _ d => uptoBulk d + 1
  | .map entries => uptoBulkEntries entries + 1
  | .held _ => 1
def uptoBulkAll {H : Type} : List (DataW H) → Nat
  | [] => 0
  | d :: r => uptoBulk d + uptoBulkAll r
def uptoBulkEntries {H : Type} : List (Lit × DataW H) → Nat
  | [] => 0
  | x :: r => uptoBulkEntry x + uptoBulkEntries r
def uptoBulkEntry {H : Type} : Lit × DataW H → Nat
  | (.string bytes, d) => bytes.length + uptoBulk d + 1
  | (_, d) => uptoBulk d + 1
 end
def uptoSmall : (H : Type) → List (DataW H) → Bool := fun _ ds => decide (uptoBulkAll ds ≤ 1048576)
def OpenSpec.upto (s : _root_.Go.ChangeSpec) : _root_.Go.OpenSpec := { _root_.Go.OpenSpec.ofChange s with cond := some uptoSmall }

/-- 'airlinelaw28.PriceQuotes', WHERE WHAT IT READS IS OF BULK AT MOST 1048576: true; the input reads as it did. -/
def priceQuotesUptoRow : OpenClaim := { program := "ytaklebjoenophaagreat", sum := "25c23af430fd756ba7a3ffbf7b1da461170b6f944d017904d1f85b52419eb4e7", func := "airline/airlinelaw28.PriceQuotes", spec := "priceQuotes", unfollowed := true, recurses := true, named := ["math/bits.divideError", "math/bits.overflowError"], loops := true, apart := false, narrowed := true }
def PriceQuotesUptoSaid : Prop := priceQuotesUptoRow.holds Tryz.pinned (OpenSpec.upto priceQuotesSpec)

/-- 'airlinelaw28.PriceChecks', WHERE WHAT IT READS IS OF BULK AT MOST 1048576: true; the input reads as it did. -/
def priceChecksUptoRow : OpenClaim := { program := "ytaklebjoenophaagreat", sum := "25c23af430fd756ba7a3ffbf7b1da461170b6f944d017904d1f85b52419eb4e7", func := "airline/airlinelaw28.PriceChecks", spec := "priceChecks", unfollowed := true, recurses := true, named := ["math/bits.divideError", "math/bits.overflowError"], loops := true, apart := false, narrowed := true }
def PriceChecksUptoSaid : Prop := priceChecksUptoRow.holds Tryz.pinned (OpenSpec.upto priceChecksSpec)

/-- 'airlinelaw28.PriceLeast', WHERE WHAT IT READS IS OF BULK AT MOST 1048576: true; the input reads as it did. -/
def priceLeastUptoRow : OpenClaim := { program := "ytaklebjoenophaagreat", sum := "25c23af430fd756ba7a3ffbf7b1da461170b6f944d017904d1f85b52419eb4e7", func := "airline/airlinelaw28.PriceLeast", spec := "priceLeast", unfollowed := true, recurses := true, named := ["math/bits.divideError", "math/bits.overflowError"], loops := true, apart := false, narrowed := true }
def PriceLeastUptoSaid : Prop := priceLeastUptoRow.holds Tryz.pinned (OpenSpec.upto priceLeastSpec)

/-- 'airlinelaw28.PriceOrders', WHERE WHAT IT READS IS OF BULK AT MOST 1048576: true; the input reads as it did. -/
def priceOrdersUptoRow : OpenClaim := { program := "ytaklebjoenophaagreat", sum := "25c23af430fd756ba7a3ffbf7b1da461170b6f944d017904d1f85b52419eb4e7", func := "airline/airlinelaw28.PriceOrders", spec := "priceOrders", unfollowed := true, recurses := true, named := ["math/bits.divideError", "math/bits.overflowError"], loops := true, apart := false, narrowed := true }
def PriceOrdersUptoSaid : Prop := priceOrdersUptoRow.holds Tryz.pinned (OpenSpec.upto priceOrdersSpec)

/-- 'airlinelaw28.PriceFewer', WHERE WHAT IT READS IS OF BULK AT MOST 1048576: true; the input reads as it did. -/
def priceFewerUptoRow : OpenClaim := { program := "ytaklebjoenophaagreat", sum := "25c23af430fd756ba7a3ffbf7b1da461170b6f944d017904d1f85b52419eb4e7", func := "airline/airlinelaw28.PriceFewer", spec := "priceFewer", unfollowed := true, recurses := true, named := ["math/bits.divideError", "math/bits.overflowError"], loops := true, apart := false, narrowed := true }
def PriceFewerUptoSaid : Prop := priceFewerUptoRow.holds Tryz.pinned (OpenSpec.upto priceFewerSpec)

end Rows
end Go.Proofs.YtaklebjoenophaaGreat
