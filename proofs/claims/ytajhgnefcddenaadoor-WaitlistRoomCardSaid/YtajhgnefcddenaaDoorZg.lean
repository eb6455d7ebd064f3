/-
  What plain data of a type are: words for structs, and for slices of them.
-/
import Derived.Test.YtajhgnefcddenaaDoorEval
import Derived.Test.YtajhgnefcddenaaDoorTv
import Derived.Test.YtajhgnefcddenaaDoorTod
namespace Go.Proofs.YtajhgnefcddenaaDoor
open Go Dm Go.RowKit

/-- Cells that stand for what others stand for. -/
def CellR (e e' : List D) : Prop := e'.length = e.length ∧ ∀ (j : Nat) (c c' : D), e[j]? = some c → e'[j]? = some c' → c'.one = true ∧ ∀ W C u, VR W C c u → VR W C c' u
theorem CellR.refl {c : List D} (h : ∀ d ∈ c, d.one = true) : CellR c c := ⟨rfl, fun j x y hx hy => by
  rw [hx] at hy
  cases hy
  exact ⟨h _ (List.mem_of_getElem? hx), fun _ _ _ h => h⟩⟩
end Go.Proofs.YtajhgnefcddenaaDoor
