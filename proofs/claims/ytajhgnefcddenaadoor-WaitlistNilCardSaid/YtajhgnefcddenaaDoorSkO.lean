/-
  The machine at the program's inventory: what does not change it.
-/
import Derived.Test.YtajhgnefcddenaaDoorSkR
namespace Go.Proofs.YtajhgnefcddenaaDoor.Dm
open Go Gw
set_option linter.unusedSimpArgs false
set_option linter.unusedSimpArgs false

/-! ### Keys and pointers -/
set_option maxRecDepth 100000 in
theorem eq_lid (a b : Lid) : dEq Tryd.prog 10000 61 (.agg a.enc) (.agg b.enc) = some (decide (a = b)) := by
  obtain ⟨c, n, d, f⟩ := a
  obtain ⟨c', n', d', f'⟩ := b
  rw [show (10000 : Nat) = 9998 + 1 + 1 from rfl]
  have hs : Tryd.prog.stoodInHeld 61 = false := by kernel_rfl
  simp only [Lid.mk.injEq]
  by_cases e1 : c = c' <;> by_cases e2 : n = n' <;> by_cases e3 : d = d' <;> by_cases e4 : f = f' <;> simp (decide := true) only [push_cast, Lid.enc, dEq, dEqs, beq_self_eq_true, bytes_refl, hs, str_eq', e1, e2, e3, e4, int_beq, decide_false, decide_true]
theorem plain_lid : plainEqT Tryd.prog 61 = true := by kernel_rfl
/-- A pointer against nil. -/
theorem eqp_loc {k i o : Nat} {t e : TypeId} {P : Program} (ht : P.underlying t = some (.pointer e)) : dEq P 10000 t (.loc k i o) .nilp = some false := by
  rw [show (10000 : Nat) = 9999 + 1 from rfl]
  simp only [dEq, ht]
theorem eqp_nil {t e : TypeId} {P : Program} (ht : P.underlying t = some (.pointer e)) : dEq P 10000 t .nilp .nilp = some true := by
  rw [show (10000 : Nat) = 9999 + 1 from rfl]
  simp only [dEq, ht]
theorem eqm_map {k : Nat} {t a b : TypeId} {P : Program} (ht : P.underlying t = some (.map a b)) : dEq P 10000 t (.map k) .nilm = some false := by
  rw [show (10000 : Nat) = 9999 + 1 from rfl]
  simp only [dEq, ht]
theorem eqp_stk {k i o : Nat} : dEq Tryd.prog 10000 26 (.loc k i o) .nilp = some false := eqp_loc Tryd.underlying26
theorem eqp_leg0 : dEq Tryd.prog 10000 79 .nilp .nilp = some true := eqp_nil Tryd.underlying79
theorem eqm_legs {k : Nat} : dEq Tryd.prog 10000 67 (.map k) .nilm = some false := eqm_map Tryd.underlying67
section
variable {S : List Ob} {lab : Lab} {o k m n : Nat} {c0 : D} {ps : List (D × D)}
end

/-! ### A leg -/
theorem LegAt.parts {S : List Ob} {lab : Lab} {o i p : Nat} {x : Leg} (h : LegAt S lab o i p x) : ∃ q es, S[p]? = some (.row 4 [[.str x.cfg.equip, .sl 4 (x.cfg.cabs.map Cab.enc) x.cfg.cabsx, .os q 0 x.sold.length false, .bool x.closed]]) ∧ S[q]? = some (.row 1 es) ∧ lab q = [o, 2, i] ∧
    ∀ (j : Nat) (row : List Int), x.sold[j]? = some row → ∃ r, es[j]? = some [.os r 0 row.length false] ∧ lab r = [o, 3, i, j] ∧ S[r]? = some (.row 1 (row.map encZ)) := by
  obtain ⟨-, d, h1, q, r, es, rfl, h2, h3, h4, h5⟩ := h
  exact ⟨q, es, h1, h3, h2, fun j row hj => ⟨r j, h5 j row hj⟩⟩
section
variable {S : List Ob} {lab : Lab} {o i p n : Nat} {x : Leg} {l : List Cfg}
end

/-! ### The inventory -/
abbrev kL : TypeId := 61
theorem StkAt.push {S : List Ob} {lab : Lab} {o : Nat} {d : D} {s : Stk} {k m : Nat} {ps : List (D × D)} (h : StkAt S lab o kL d s k m ps) (J : List Ob) : StkAt (S ++ J) lab o kL d s k m ps := h.keep KeepO.push
section
variable {S : List Ob} {lab : Lab} {o k m n : Nat} {s : Stk} {ps : List (D × D)} {id : Lid}
def equipD : Option ByteArray → D
  | some e => .tup [.str e, .bool true]
  | none => .tup [.str (ByteArray.mk #[]), .bool false]
/-- The excess of the first cabins. -/
def excT (x : Leg) : Nat → Int
  | 0 => 0
  | c + 1 => match x.cfg.cabs[c]?, x.sold[c]? with
    | some y, some row => max (excT x c) (excF y row row.length)
    | _, _ => excT x c
end
end Go.Proofs.YtajhgnefcddenaaDoor.Dm
