/-
  The machine at Verify of a journal whose records lie in a row of the store.
-/
import Derived.Test.YteffefjkcappbaaDoorAuV
namespace Go.Proofs.YteffefjkcappbaaDoor.Dm
open Go
set_option linter.unusedSimpArgs false

theorem get_old {S J : List Ob} {k : Nat} {o : Ob} (h : S[k]? = some o) : (S ++ J)[k]? = some o := by
  rw [List.getElem?_append_left ((List.getElem?_eq_some_iff.1 h).1)]; exact h
end Go.Proofs.YteffefjkcappbaaDoor.Dm
