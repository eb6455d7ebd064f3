/-
  The machine at codes of airports, countries and carriers, at decimals below 100, and at lists of violations that are compared: the program's and the reference's.
-/
import Derived.Test.YtgomkmamgflbeaaDoorTxE
import Derived.Test.YtgomkmamgflbeaaDoorGw
import Derived.Test.YtgomkmamgflbeaaDoorWq
namespace Go.Proofs.YtgomkmamgflbeaaDoor.Dm
open Go Gw
set_option linter.unusedSimpArgs false

def carS (s : ByteArray) : Bool := codeS s 2 2 && !evr digB s s.size
/-! Decimals of numbers below 100. -/
def dec2 (n : Nat) : ByteArray := if n < 10 then ⟨#[UInt8.ofNat (48 + n)]⟩ else ⟨#[UInt8.ofNat (48 + n / 10), UInt8.ofNat (48 + n % 10)]⟩
/-! Lists of violations that are equal are found equal. -/
/-- A list of violations that a call has handed back. -/
def FZ (d : D) (fs : List (Int × ByteArray)) : Prop := (d = .nils ∧ fs = []) ∨ ∃ x, d = .sl 2 (fs.map encF) x
theorem FZ.pure {d : D} {fs : List (Int × ByteArray)} (h : FZ d fs) : d.pure = true := by
  rcases h with ⟨rfl, -⟩ | ⟨x, rfl⟩
  · rfl
  · exact encF_pure fs
end Go.Proofs.YtgomkmamgflbeaaDoor.Dm
