/-
  The waiting list that is nil, a zero value, or new: its methods.
-/
import Derived.Test.YtajhgnefcddenaaDoorWlN
namespace Go.Proofs.YtajhgnefcddenaaDoor.Dm
open Go Gw
set_option linter.unusedSimpArgs false
set_option linter.unusedSimpArgs false

section
variable {n : Nat} {S : List Ob} {p : D} {st : Bool}
theorem NoL.set {j : Nat} {o : Ob} (h : NoL S p) (hj : S.length ≤ j) : NoL (S.set j o) p := by
  rcases h with h | ⟨k, h, hk⟩
  · exact .inl h
  · have := lt_of_get hk
    exact .inr ⟨k, h, by rw [List.getElem?_set_ne (by omega)]; exact hk⟩
end
/-! ### What is asked of a request -/
end Go.Proofs.YtajhgnefcddenaaDoor.Dm
