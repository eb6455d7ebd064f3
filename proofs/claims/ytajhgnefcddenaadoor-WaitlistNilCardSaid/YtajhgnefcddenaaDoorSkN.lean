/-
  The machine at the classes of a cabin: what is right, limits, what is left below them.
-/
import Derived.Test.YtajhgnefcddenaaDoorSkA
import Derived.Test.YtajhgnefcddenaaDoorSkS
import Derived.Test.YtajhgnefcddenaaDoorTxE
namespace Go.Proofs.YtajhgnefcddenaaDoor.Dm
open Go Gw
set_option linter.unusedSimpArgs false
set_option linter.unusedSimpArgs false

/-! ### Words -/
theorem exts_split {S T : List Ob} (h : ExtS S T) : ∃ J, T = S ++ J := by
  refine ⟨T.drop S.length, List.ext_getElem? fun k => ?_⟩
  by_cases hk : k < S.length
  · rw [List.getElem?_append_left hk, List.getElem?_eq_getElem hk]
    exact h k _ (List.getElem?_eq_getElem hk)
  · rw [List.getElem?_append_right (by omega), List.getElem?_drop]
    congr 1
    omega
theorem Gw.ExtS.app {S J : List Ob} : ExtS S (S ++ J) := fun _ _ h => get_old h
theorem Gw.ExtS.set {S T : List Ob} (h : ExtS S T) {k : Nat} (hk : S.length ≤ k) (o : Ob) : ExtS S (T.set k o) := fun j x hj => by
  have := lt_of_get hj
  rw [List.getElem?_set_ne (by omega)]
  exact h j x hj
theorem Gw.ExtS.len {S T : List Ob} (h : ExtS S T) : S.length ≤ T.length := by
  obtain ⟨J, rfl⟩ := exts_split h
  rw [List.length_append]; omega
section
variable {call : Call} {st : Bool} {S : List Ob} {f : FuncId} {args : List D} {d d' : D} {T : List Ob}
end
/-- A row of numbers by their places. -/
def rowH (n : Nat) (h : Nat → Int) : List (List D) := (List.range n).map fun j => encZ (h j)
def rngI (l : List Int) : Prop := ∀ v ∈ l, 0 ≤ v ∧ v ≤ 9999
/-! ### Numbers that are right -/
def outB (v : Int) : Bool := decide (v < 0) || decide (9999 < v)
def rightB (y : Cab) (sold : List Int) : Bool := decide (sold.length = y.cls.length) && !sold.any outB
/-! ### Limits -/
abbrev cabR (y : Cab) : Ob := .row 4 [[.str y.name, .int .i64 y.seats, .int .i64 y.over, .sl 2 (y.cls.map Cls.enc) y.clsx]]
/-! ### What is left below the limits -/
/-- The least so far. -/
def lsF (y : Cab) (l : List Int) : Nat → Int
  | 0 => 1099511627776
  | i + 1 => avF y l i
end Go.Proofs.YtajhgnefcddenaaDoor.Dm
