/-
  The walk of OfferShown.
-/
import Derived.Test.YticflebneoebkaaDoorFrameO
import Derived.Test.YticflebneoebkaaDoorOffA
namespace Go.Proofs.YticflebneoebkaaDoor
open Go Go.ChangeShapes Go.WideShapes Go.ChangeAt Go.RowKit Dm

theorem OfferShown_walk {W : World} (x : Int) : Calls Tryd.prog 3 #[.int .i64 x] W fun e W' => e = .returned (.bool true) ∧ Below W.heap.size W W' := by
  obtain ⟨T, hT⟩ := OfferShown_d x
  exact true_of_dcall envOk (I := fun g => g < W.heap.size) hT (fun g h => h) (fun g cs hg => by cases hg) (VRs.cons (.int _ _) VRs.nil)
end Go.Proofs.YticflebneoebkaaDoor
