/-
  The examples of layer 18 hold: the machine runs them.
-/
import Derived.Test.YticflebneoebkaaDoorEval
namespace Go.Proofs.YticflebneoebkaaDoor.Dm
open Go
theorem awake18_t : isT (dcall E 100 9 [] []) = true := by kernel_rfl
theorem awake18_d : ∃ T, dcall E 100 9 [] [] = some (.bool true, T) := isT_spec awake18_t
end Go.Proofs.YticflebneoebkaaDoor.Dm
