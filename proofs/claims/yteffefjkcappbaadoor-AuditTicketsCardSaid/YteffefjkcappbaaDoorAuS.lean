/-
  The machine at the checksums of a journal: both are one number.
-/
import Derived.Test.YteffefjkcappbaaDoorWp
namespace Go.Proofs.YteffefjkcappbaaDoor.Dm
open Go
set_option linter.unusedSimpArgs false

def sumStep (h : Int) (b : UInt8) : Int := (IntKind.i64.wrap (IntKind.i64.wrap (IntKind.i64.wrap (257 * h) + IntKind.i64.wrap b.toNat) + 1)).tmod 2147483647
def sumN (h : Int) (s : ByteArray) : Nat → Int
  | 0 => h
  | i + 1 => sumStep (sumN h s i) ((s[i]?).getD 0)
def sumI (x : Int) : Int := if x.tmod 2147483647 < 0 then IntKind.i64.wrap (x.tmod 2147483647 + 2147483647) else x.tmod 2147483647
def sumR (x : Int) (s : ByteArray) : Int := (IntKind.i64.wrap (257 * sumN (sumI x) s s.size)).tmod 2147483647
end Go.Proofs.YteffefjkcappbaaDoor.Dm
