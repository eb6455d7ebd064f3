/-
  The machine at minimum connecting times: the reference's Check.
-/
import Derived.Test.YtgomkmamgflbeaaDoorCoC
namespace Go.Proofs.YtgomkmamgflbeaaDoor.Dm
open Go Gw
set_option linter.unusedSimpArgs false

/-- What a text of a code is in the reference. -/
def CnR (n : Nat) (c : Cnn) : Prop := (c.a.size + 10 < n ∧ c.i.size + 10 < n ∧ c.o.size + 10 < n) ∧ c.a.size ≤ 9223372036854775807 ∧ c.i.size ≤ 9223372036854775807 ∧ c.o.size ≤ 9223372036854775807
end Go.Proofs.YtgomkmamgflbeaaDoor.Dm
