/-
  The waiting list that is nil, a zero value, or new.
-/
import Derived.Test.YtajhgnefcddenaaDoorEnvB
import Derived.Test.YtajhgnefcddenaaDoorSnM
import Derived.Test.YtajhgnefcddenaaDoorWlT
namespace Go.Proofs.YtajhgnefcddenaaDoor.Dm
open Go Gw
set_option linter.unusedSimpArgs false
set_option linter.unusedSimpArgs false

theorem awake19_n {n : Nat} (hn : 1 ≤ n) (st : Bool) (S : List Ob) : callD E (dcall E n) st S 5 [] = some (.bool true, S) := by
  obtain ⟨m, rfl⟩ : ∃ m, n = m + 1 := ⟨n - 1, by omega⟩
  rfl
theorem callD_genw {call : Call} {st : Bool} {S : List Ob} {f : FuncId} {args : List D} (hm : E.mode f = .gen) : callD E call st S f args = call f args S := by
  unfold callD
  rw [hm]
theorem eqp_list1 (k : Nat) : dEq Tryd.prog 10000 30 (.loc k 0 0) .nilp = some false := eqp_loc Tryd.underlying30
/-- A nil list, or a zero value. -/
def NoL (S : List Ob) (p : D) : Prop := p = .nilp ∨ ∃ k, p = .loc k 0 0 ∧ S[k]? = some (.row 4 [[.nils, .nilf, .nilf, .bool false]])
theorem NoL.app {S : List Ob} {p : D} (h : NoL S p) (J : List Ob) : NoL (S ++ J) p := by
  rcases h with h | ⟨k, h, hk⟩
  · exact .inl h
  · exact .inr ⟨k, h, by rw [List.getElem?_append_left (lt_of_get hk)]; exact hk⟩
section
variable {n : Nat} {S : List Ob} {p : D} {st : Bool}
end
end Go.Proofs.YtajhgnefcddenaaDoor.Dm
