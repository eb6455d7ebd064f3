/-
  The machine at the look at accounts.
-/
import Derived.Test.YteffefjkcappbaaDoorMoS
namespace Go.Proofs.YteffefjkcappbaaDoor.Dm
open Go
set_option linter.unusedSimpArgs false

theorem set_same' {α : Type} {l : List α} {k : Nat} {x y : α} (h : l[k]? = some y) : (l.set k x)[k]? = some x := by
  rw [List.getElem?_set_self ((List.getElem?_eq_some_iff.1 h).1)]
def Cell (S : List Ob) (o : Nat) (fs : List (Int × ByteArray)) : Prop := ∃ d, S[o]? = some (.row 1 [[d]]) ∧ GV S d fs ∧ (∀ n, d = .os o 0 n false → False)
theorem Cell.push {S : List Ob} {o : Nat} {fs : List (Int × ByteArray)} (h : Cell S o fs) (x : Ob) : Cell (S ++ [x]) o fs := by
  obtain ⟨d, h1, h2, h3⟩ := h
  exact ⟨d, get_old h1, h2.push x, h3⟩
end Go.Proofs.YteffefjkcappbaaDoor.Dm
