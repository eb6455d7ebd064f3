/-
  The walk of WaitlistNil.
-/
import Derived.Test.YtajhgnefcddenaaDoorWlS
import Derived.Test.YtajhgnefcddenaaDoorWlY
import Derived.Test.YtajhgnefcddenaaDoorEval
import Derived.Test.YtajhgnefcddenaaDoorWq
import Derived.Test.YtajhgnefcddenaaDoorFrameO
import Derived.Test.YtajhgnefcddenaaDoorTod
namespace Go.Proofs.YtajhgnefcddenaaDoor.Dm
open Go Gw
set_option linter.unusedSimpArgs false
set_option linter.unusedSimpArgs false

/-- The request's cell, and the zero list's. -/
def Bs (x : Wt) (kz : Nat) (T : List Ob) : Prop := T[0]? = some (.row 5 [x.enc]) ∧ T[kz]? = some (.row 4 [[.nils, .nilf, .nilf, .bool false]])
theorem Bs.app {x : Wt} {kz : Nat} {T : List Ob} (h : Bs x kz T) (J : List Ob) : Bs x kz (T ++ J) :=
  ⟨by rw [List.getElem?_append_left (lt_of_get h.1)]; exact h.1, by rw [List.getElem?_append_left (lt_of_get h.2)]; exact h.2⟩
theorem Bs.no {x : Wt} {kz : Nat} {T : List Ob} (h : Bs x kz T) {p : D} (hp : p = .nilp ∨ p = .loc kz 0 0) : NoL T p := by
  rcases hp with rfl | rfl
  · exact .inl rfl
  · exact .inr ⟨kz, rfl, h.2⟩
end Go.Proofs.YtajhgnefcddenaaDoor.Dm
namespace Go.Proofs.YtajhgnefcddenaaDoor
open Go Go.ChangeShapes Go.WideShapes Go.ChangeAt Go.RowKit Dm
theorem TVs.int1w {P : Program} {t : TypeId} {k : IntKind} (ht : P.underlying t = some (.int k)) {ts : List TypeId} {xs : List D} (h : TVs P (t :: ts) xs) : ∃ n xs', xs = .int k n :: xs' ∧ (Lit.int k n).wf = true ∧ TVs P ts xs' := by
  cases h with
  | cons h hs =>
    rcases h with ⟨hg, -⟩ | ⟨-, h⟩
    · rw [aggT, ht] at hg; cases hg
    · cases h with
      | int h hw => rw [ht] at h; cases h; exact ⟨_, _, rfl, hw, hs⟩
      | str h => rw [ht] at h; cases h
      | bool h => rw [ht] at h; cases h
      | nils h => rw [ht] at h; cases h
      | sl h => rw [ht] at h; cases h
      | struct h => rw [ht] at h; cases h
      | array h => rw [ht] at h; cases h
end Go.Proofs.YtajhgnefcddenaaDoor
