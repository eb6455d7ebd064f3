/-
  A region that draws its order, taken operation by operation: an operation whose guard is false is taken first. No program in sight.
-/
import Derived.WalkKit
import Derived.Deep.RegionHeld3
namespace Go.Proofs.YtfmdnmkojeolkaaDoor
open Go
section
variable {P : Program} {ops : Array Oper} {Q : Exit → Act → World → Prop} {md : Region.Mode} {S : World → Prop}

theorem at_of_list {pre post : List Oper} {oi : Oper} (hl : ops.toList = pre ++ oi :: post) : ops[pre.length]? = some oi := by
  rw [← Array.getElem?_toList, hl]; simp

/-- An operation that yields in every world that meets S is taken first. -/
theorem reg_on (pre : List Oper) {post : List Oper} {oi : Oper} {v : Value} {fuel : Nat} {listed : Array Bool} {a : Act} {w : World} (hl : ops.toList = pre ++ oi :: post)
    (hs : Region.noSelect ops = true) (hf : Region.free md ops listed pre.length = true) (hr : (Region.ready md ops listed).contains pre.length = true)
    (hQ : ∀ c a w, Q (.panic c) (a.put oi.dst v) w → Q (.panic c) a w) (hw : Region.wanted oi (yielded ops a.tmps) = true) (hS : S w) (hy : ∀ w, S w → (execOp a.eval oi).run P w = .ok (.value v) w)
    (h : wpAnyH P md ops Q S fuel (listed.setIfInBounds pre.length true) (a.put oi.dst v) w) : wpAnyH P md ops Q S (fuel + 1) listed a w :=
  wpAnyH_take (at_of_list hl) hs hf hr hQ (.inl ⟨hw, hy⟩) hS h

/-- An operation whose guard is false is taken first. -/
theorem reg_off (pre : List Oper) {post : List Oper} {oi : Oper} {fuel : Nat} {listed : Array Bool} {a : Act} {w : World} (hl : ops.toList = pre ++ oi :: post)
    (hs : Region.noSelect ops = true) (hf : Region.free md ops listed pre.length = true) (hr : (Region.ready md ops listed).contains pre.length = true)
    (hQ : ∀ c a w, Q (.panic c) (a.put oi.dst undef) w → Q (.panic c) a w) (hw : Region.wanted oi (yielded ops a.tmps) = false) (hS : S w)
    (h : wpAnyH P md ops Q S fuel (listed.setIfInBounds pre.length true) (a.put oi.dst undef) w) : wpAnyH P md ops Q S (fuel + 1) listed a w :=
  wpAnyH_take (at_of_list hl) hs hf hr hQ (.inr ⟨hw, rfl⟩) hS h

/-- The one operation that may come up is carried out. -/
theorem reg_one (pre : List Oper) {post : List Oper} {oi : Oper} {fuel : Nat} {listed : Array Bool} {a : Act} {w : World} (hl : ops.toList = pre ++ oi :: post)
    (hr : Region.ready md ops listed = [pre.length]) (hw : Region.wanted oi (yielded ops a.tmps) = true)
    (h : ∀ K' : Act → World → Prop, Shut (∀ a w, S w → (S w → wpAnyH P md ops Q S fuel (listed.setIfInBounds pre.length true) a w) → K' a w) → Oper.wp P oi a w K' Q) : wpAnyH P md ops Q S (fuel + 1) listed a w :=
  wpAnyH_ready hr (by simp) (AllReadyH.cons (at_of_list hl) (fun K hK => by rw [if_pos hw]; exact h K hK) AllReadyH.nil)
end

/-- The region of that number in a code: so that a step can be stated apart from the walk that comes to it. -/
def regOf (id : Nat) : Code → Option Code
  | .region i ops d => if i = id then some (.region i ops d) else none
  | .seq a b => match regOf id a with
    | some c => some c
    | none => regOf id b
  | .cond _ a b => match regOf id a with
    | some c => some c
    | none => regOf id b
  | .block _ c => regOf id c
  | .loop c => regOf id c
  | .scope c => regOf id c
  | .rangeFunc _ _ a b => match regOf id a with
    | some c => some c
    | none => regOf id b
  | _ => none
/-- The body of the first range over a function in a code. -/
def rangeOf : Code → Option Code
  | .rangeFunc _ _ _ b => some b
  | .seq a b => match rangeOf a with
    | some c => some c
    | none => rangeOf b
  | .cond _ a b => match rangeOf a with
    | some c => some c
    | none => rangeOf b
  | .block _ c => rangeOf c
  | .loop c => rangeOf c
  | .scope c => rangeOf c
  | _ => none
end Go.Proofs.YtfmdnmkojeolkaaDoor
