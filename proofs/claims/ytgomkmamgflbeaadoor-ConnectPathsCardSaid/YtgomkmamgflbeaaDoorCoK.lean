/-
  The machine at connecting times: the examples of the chapter.
-/
import Derived.Test.YtgomkmamgflbeaaDoorMono
namespace Go.Proofs.YtgomkmamgflbeaaDoor.Dm
open Go

theorem knows_t : isT (dcall E 200 9 [] []) = true := by kernel_rfl
theorem knows_c {n : Nat} (hn : 200 ≤ n) (st : Bool) (S : List Ob) : callD E (dcall E n) st S 9 [] = some (.bool true, S) := by
  obtain ⟨T, h⟩ := isT_spec knows_t
  exact callD_up hn (callD_pure rfl rfl h rfl)
end Go.Proofs.YtgomkmamgflbeaaDoor.Dm
