/-
  The machine at the program's inventory: the legs of a sale.
  The machine at the program's inventory: Sell and Cancel.
  The machine at the program's inventory: Resize.
-/
import Derived.Test.YtajhgnefcddenaaDoorSkW
namespace Go.Proofs.YtajhgnefcddenaaDoor.Dm
open Go Gw
set_option linter.unusedSimpArgs false
set_option linter.unusedSimpArgs false

abbrev encP (p : Nat) : List D := [.loc p 0 0]
/-! ### The legs of a sale -/
def clB (U : List Ob) (p : Nat) : Bool := match U[p]? with
  | some (.row _ [[_, _, _, .bool b]]) => b
  | _ => false
structure PtrAt (S : List Ob) (lab : Lab) (o : Nat) (s : Stk) (ps : List (D × D)) (cl : ByteArray) (id : Lid) (p : Nat) : Prop where
  x : ∃ i x q, s.legs[i]? = some (id, x) ∧ ps[i]? = some (.agg id.enc, .loc p 0 0) ∧ s.get id = some x ∧ LegAt S lab o i p x ∧ placeF cl 0 x.cfg.cabs = some q
section
variable {S : List Ob} {lab : Lab} {o k m n : Nat} {s : Stk} {ps : List (D × D)} {ids : List Lid}
theorem mem_at {α : Type} {l : List α} {i : Nat} {x : α} (h : l[i]? = some x) : x ∈ l := List.mem_of_getElem? h
end
set_option linter.unusedSimpArgs false

section
variable {S : List Ob} {lab : Lab} {o k m n : Nat} {s : Stk} {ps : List (D × D)} {ids : List Lid} {id : Lid}
/-- Seats of a leg are sold. -/
theorem StkAt.put {i p a b r q : Nat} {x : Leg} {cl : ByteArray} {w : Int} {row : List Int} {es : List (List D)} (h : StkAt S lab o kL (.loc k 0 0) s k m ps) (hf : FreshL S lab) (hnd : (s.legs.map (·.1)).Nodup) (hi : s.legs[i]? = some (id, x)) (hp : ps[i]? = some (.agg id.enc, .loc p 0 0)) (hx : LegAt S lab o i p x)
    (hpl : placeF cl 0 x.cfg.cabs = some (a, b)) (ha : x.sold[a]? = some row) (hq : S[q]? = some (.row 1 es)) (hpq : S[p]? = some (.row 4 [legCells x (.os q 0 x.sold.length false)])) (hr : es[a]? = some [.os r 0 row.length false]) (hlr : lab r = [o, 3, i, a]) :
    StkAt (S.set r (.row 1 ((row.modify b (· + w)).map encZ))) lab o kL (.loc k 0 0) { s with legs := updL s.legs id (addL cl w) } k m ps ∧ Step o S lab (S.set r (.row 1 ((row.modify b (· + w)).map encZ))) lab := by
  have hst : Step o S lab (S.set r (.row 1 ((row.modify b (· + w)).map encZ))) lab := Step.set hf _ (by rw [hlr]; rfl)
  have hadd : addL cl w x = { x with sold := addAt x.sold a b w } := by unfold addL; rw [hpl]
  refine ⟨h.upd hnd hi hp (fun z ob hz n1 n2 n3 => ?_) (fun _ _ => rfl) ?_, hst⟩
  · rw [List.getElem?_set_ne]
    · exact hz
    · rintro rfl; exact n3 a hlr
  · rw [hadd]
    obtain ⟨h1, d, h2, h3⟩ := hx
    rw [hpq] at h2
    have hd : d = .os q 0 x.sold.length false := by simpa [legCells] using h2.symm
    subst hd
    have hlen : (addAt x.sold a b w).length = x.sold.length := by rw [addAt, List.length_modify]
    refine ⟨h1, _, ?_, h3.add ha hlr ⟨q, es, rfl, hq, hr⟩⟩
    rw [List.getElem?_set_ne]
    · exact hpq
    · rintro rfl; rw [hlr] at h1; simp at h1
def lessB (lab : Lab) (s : Stk) (cl : ByteArray) (w : Int) (p : Nat) : Bool := match lab p with
  | [_, _, i] => match s.legs[i]? with
    | some (_, x) => decide (leftF x cl < w)
    | none => false
  | _ => false
end
set_option linter.unusedSimpArgs false

/-- A table of a configuration's form, with numbers up to a bound. -/
structure Tab (b : Cfg) (M : Int) (t : List (List Int)) : Prop where
  len : t.length = b.cabs.length
  row : ∀ (i : Nat) (y : Cab) (r : List Int), b.cabs[i]? = some y → t[i]? = some r → r.length = y.cls.length
  bd : ∀ (i : Nat) (r : List Int), t[i]? = some r → ∀ v ∈ r, 0 ≤ v ∧ v ≤ M
theorem Tab.empty {b : Cfg} : Tab b 0 (emptyF b) := by
  refine ⟨by simp [emptyF], fun i y r h1 h2 => ?_, fun i r h v hv => ?_⟩
  · unfold emptyF at h2
    rw [List.getElem?_map, h1] at h2
    cases h2
    simp
  · unfold emptyF at h
    rw [List.getElem?_map] at h
    obtain ⟨y, -, rfl⟩ := Option.map_eq_some_iff.1 h
    have := (List.mem_replicate.1 hv).2
    omega
theorem Tab.mono {b : Cfg} {M N : Int} {t : List (List Int)} (h : Tab b M t) (hM : M ≤ N) : Tab b N t :=
  ⟨h.len, h.row, fun i r hr v hv => by have := h.bd i r hr v hv; omega⟩
theorem Tab.add {b : Cfg} {M w : Int} {t : List (List Int)} {i k : Nat} (h : Tab b M t) (h0 : 0 ≤ w) (hw : w ≤ 9999) : Tab b (M + 9999) (addAt t i k w) := by
  refine ⟨by rw [addAt, List.length_modify]; exact h.len, fun j y r h1 h2 => ?_, fun j r hr v hv => ?_⟩
  · unfold addAt at h2
    rw [modify_at] at h2
    obtain ⟨q, hq, rfl⟩ := Option.map_eq_some_iff.1 h2
    have := h.row j y q h1 hq
    split
    · rw [List.length_modify]; exact this
    · exact this
  · unfold addAt at hr
    rw [modify_at] at hr
    obtain ⟨q, hq, rfl⟩ := Option.map_eq_some_iff.1 hr
    have hb := h.bd j q hq
    split at hv
    · obtain ⟨m, hm⟩ := List.mem_iff_getElem?.1 hv
      rw [modify_at] at hm
      obtain ⟨u, hu, rfl⟩ := Option.map_eq_some_iff.1 hm
      have := hb u (mem_at hu)
      split <;> omega
    · have := hb v hv
      omega
theorem TabAt.parts {S : List Ob} {lab : Lab} {o i q n : Nat} {t : List (List Int)} (h : TabAt S lab o i (.os q 0 n false) t) : ∃ es, S[q]? = some (.row 1 es) ∧ lab q = [o, 2, i] ∧ ∀ (j : Nat) (row : List Int), t[j]? = some row → ∃ r, es[j]? = some [.os r 0 row.length false] ∧ lab r = [o, 3, i, j] ∧ S[r]? = some (.row 1 (row.map encZ)) := by
  obtain ⟨q', r, es, e, h2, h3, h4, h5⟩ := h
  cases e
  exact ⟨es, h3, h2, fun j row hj => ⟨r j, h5 j row hj⟩⟩
theorem TabAt.push {S : List Ob} {lab : Lab} {o i : Nat} {d : D} {t : List (List Int)} (h : TabAt S lab o i d t) (J : List Ob) : TabAt (S ++ J) lab o i d t := h.keep fun _ _ _ hx _ => ⟨get_old hx, rfl⟩
section
variable {S : List Ob} {lab : Lab} {o k m n : Nat} {s : Stk} {ps : List (D × D)} {ids : List Lid} {id : Lid}
end
end Go.Proofs.YtajhgnefcddenaaDoor.Dm
