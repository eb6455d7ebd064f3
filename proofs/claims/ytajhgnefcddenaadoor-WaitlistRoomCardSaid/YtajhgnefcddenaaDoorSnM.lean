/-
  The machine at the methods of an inventory that is nil or a zero value.
-/
import Derived.Test.YtajhgnefcddenaaDoorSnA
import Derived.Test.YtajhgnefcddenaaDoorSkW
import Derived.Test.YtajhgnefcddenaaDoorSkF
namespace Go.Proofs.YtajhgnefcddenaaDoor.Dm
open Go Gw
set_option linter.unusedSimpArgs false
set_option linter.unusedSimpArgs false

/-- A nil inventory, or a zero value. -/
def NoneAt (S : List Ob) (p : D) : Prop := p = .nilp ∨ ∃ k, p = .loc k 0 0 ∧ S[k]? = some (.row 2 [[.nils, .nilm]])
theorem NoneAt.app {S : List Ob} {p : D} (h : NoneAt S p) (J : List Ob) : NoneAt (S ++ J) p := by
  rcases h with h | ⟨k, h, hk⟩
  · exact .inl h
  · exact .inr ⟨k, h, by rw [List.getElem?_append_left (lt_of_get hk)]; exact hk⟩
section
variable {n : Nat} {S : List Ob} {p r : D} {f : FuncId} {xs : List D} {st : Bool}
end
def e320 : ByteArray := ByteArray.mk #[51, 50, 48]
section
variable {n : Nat} {S : List Ob} {p : D}
end
end Go.Proofs.YtajhgnefcddenaaDoor.Dm
