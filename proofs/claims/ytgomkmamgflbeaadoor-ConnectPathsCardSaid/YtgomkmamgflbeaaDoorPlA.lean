/-
  The machine at places: airports and towns are found, and the city of a code: the program's and the reference's.
  The machine at the reference's check of places: it hands back a list of violations.
  The machine at the reference's check of places: airports, distances, all.
  The machine at the reference's check of places: it hands back a list of violations.
-/
import Derived.Test.YtgomkmamgflbeaaDoorPlT
import Derived.Test.YtgomkmamgflbeaaDoorWq
import Derived.Test.YtgomkmamgflbeaaDoorGl
import Derived.Test.YtgomkmamgflbeaaDoorTxP
import Derived.Test.YtgomkmamgflbeaaDoorCoC
namespace Go.Proofs.YtgomkmamgflbeaaDoor.Dm
open Go Gw
set_option linter.unusedSimpArgs false

def zeroApt : List D := [.str (ByteArray.mk #[]), .str (ByteArray.mk #[]), .str (ByteArray.mk #[]), .int .i64 0, .nils]
/-- What a search hands back. -/
def foundD : Option Apt → D
  | some a => .tup [.agg a.enc, .bool true]
  | none => .tup [.agg zeroApt, .bool false]
/-- The city of a code. -/
def cityS (p : Plc) (s : ByteArray) : ByteArray :=
  match p.aps.find? fun a => a.code.toList == s.toList with
  | some a => a.city
  | none => match p.aps.find? fun a => a.city.toList == s.toList with
    | some _ => s
    | none => ByteArray.mk #[]
def encI (e : Int) : List D := [.int .i64 e]
def offB (x : Int) : Bool := decide (-840 ≤ x) && decide (x ≤ 840)
/-- What a code of places is in the reference. -/
def AptR (n : Nat) (c : Apt) : Prop := (c.code.size + 10 < n ∧ c.city.size + 10 < n ∧ c.ctry.size + 10 < n) ∧ c.code.size ≤ 9223372036854775807 ∧ c.city.size ≤ 9223372036854775807 ∧ c.ctry.size ≤ 9223372036854775807
/-- A slice that does not lie in the first object. -/
def NZ (d : D) : Prop := ∀ n, d = .os 0 0 n false → False
end Go.Proofs.YtgomkmamgflbeaaDoor.Dm
