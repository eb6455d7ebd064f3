/-
  The machine at the program's inventory: what does not change it.
-/
import Derived.Test.YthkbiiammhekfaaGreatDoorSkR
set_option linter.unusedSimpArgs false
set_option linter.unusedVariables false
namespace Go.Proofs.YthkbiiammhekfaaGreatDoor.Dm
open Go Gw
set_option linter.unusedSimpArgs false
set_option linter.unusedSimpArgs false

/-! ### Keys and pointers -/
section
variable {S : List Ob} {lab : Lab} {o k m n : Nat} {c0 : D} {ps : List (D × D)}
end

/-! ### A leg -/
theorem LegOk.rng {l : List Cfg} {B : Int} {x : Leg} (h : LegOk l B x) (hB : B ≤ 9999) {i : Nat} {r : List Int} (hr : x.sold[i]? = some r) : rngI r := fun v hv => by
  obtain ⟨h1, h2⟩ := h.row hr
  obtain ⟨k, hk⟩ := List.mem_iff_getElem?.1 hv
  have := sum_at h1 hk
  have := h1 v hv
  omega
theorem LegAt.parts {S : List Ob} {lab : Lab} {o i p : Nat} {x : Leg} (h : LegAt S lab o i p x) : ∃ q es, S[p]? = some (.row 4 [[.str x.cfg.equip, .sl 4 (x.cfg.cabs.map Cab.enc) x.cfg.cabsx, .os q 0 x.sold.length false, .bool x.closed]]) ∧ S[q]? = some (.row 1 es) ∧ lab q = [o, 2, i] ∧
    ∀ (j : Nat) (row : List Int), x.sold[j]? = some row → ∃ r, es[j]? = some [.os r 0 row.length false] ∧ lab r = [o, 3, i, j] ∧ S[r]? = some (.row 1 (row.map encZ)) := by
  obtain ⟨-, d, h1, q, r, es, rfl, h2, h3, h4, h5⟩ := h
  exact ⟨q, es, h1, h3, h2, fun j row hj => ⟨r j, h5 j row hj⟩⟩
section
variable {S : List Ob} {lab : Lab} {o i p n : Nat} {x : Leg} {l : List Cfg}
end

/-! ### The inventory -/
abbrev kL : TypeId := 50
theorem StkAt.push {S : List Ob} {lab : Lab} {o : Nat} {d : D} {s : Stk} {k m : Nat} {ps : List (D × D)} (h : StkAt S lab o kL d s k m ps) (J : List Ob) : StkAt (S ++ J) lab o kL d s k m ps := h.keep KeepO.push
section
variable {S : List Ob} {lab : Lab} {o k m n : Nat} {s : Stk} {ps : List (D × D)} {id : Lid}
def equipD : Option ByteArray → D
  | some e => .tup [.str e, .bool true]
  | none => .tup [.str (ByteArray.mk #[]), .bool false]
/-- The excess of the first cabins. -/
def excT (x : Leg) : Nat → Int
  | 0 => 0
  | c + 1 => match x.cfg.cabs[c]?, x.sold[c]? with
    | some y, some row => max (excT x c) (excF y row row.length)
    | _, _ => excT x c
end
end Go.Proofs.YthkbiiammhekfaaGreatDoor.Dm
