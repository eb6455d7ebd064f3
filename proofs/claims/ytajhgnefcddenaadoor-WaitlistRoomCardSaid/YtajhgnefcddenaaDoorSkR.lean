/-
  The machine at the reference's classes of a cabin.
-/
import Derived.Test.YtajhgnefcddenaaDoorSkN
namespace Go.Proofs.YtajhgnefcddenaaDoor.Dm
open Go Gw
set_option linter.unusedSimpArgs false
set_option linter.unusedSimpArgs false

/-- The first values of a function. -/
def upTo (f : Nat → Int) (i : Nat) : List Int := (List.range i).map f
/-- The least of what is left in class i and in those before k. -/
def mnF (y : Cab) (l : List Int) (i : Nat) : Nat → Int
  | 0 => spF y l i
  | k + 1 => min (mnF y l i k) (spF y l k)
end Go.Proofs.YtajhgnefcddenaaDoor.Dm
