/-
  A plan, cut behind its branchings.
-/
import Derived.Test.YtajhgnefcddenaaDoorWq
namespace Go.Proofs.YtajhgnefcddenaaDoor.Dm
open Go

/-- As set_sort; simp would take that one for a permutation and apply it by its own order of terms. -/
theorem set_sorti {α : Type} {l : List α} {i j : Nat} {x y : α} (h : j < i) : (l.set i x).set j y = (l.set j (id y)).set i x := List.set_comm _ _ (Nat.ne_of_gt h)
def Plan.andThen : Plan → Plan → Plan
  | .done, r => r
  | .step i p, r => .step i (p.andThen r)
  | .both p q, r => .both (p.andThen r) (q.andThen r)
section
variable {call : Call} {ops : Array Oper} {a : List D} {S : List Ob} {Q : Post} {L : List Nat}
end

end Go.Proofs.YtajhgnefcddenaaDoor.Dm
