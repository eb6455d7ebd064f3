/-
  The machine at the program's inventory: Open and Close.
-/
import Derived.Test.YtajhgnefcddenaaDoorSkE
namespace Go.Proofs.YtajhgnefcddenaaDoor.Dm
open Go Gw
set_option linter.unusedSimpArgs false
set_option linter.unusedSimpArgs false

theorem LegAt.keep' {S T : List Ob} {lab lab' : Lab} {o i p : Nat} {x : Leg} (h : LegAt S lab o i p x)
    (g : ∀ (z : Nat) (ob : Ob), S[z]? = some ob → (lab z = [o, 1, i] ∨ lab z = [o, 2, i] ∨ ∃ j, lab z = [o, 3, i, j]) → T[z]? = some ob ∧ lab' z = lab z) : LegAt T lab' o i p x := by
  obtain ⟨h1, d, h2, h3⟩ := h
  obtain ⟨g1, g2⟩ := g p _ h2 (.inl h1)
  refine ⟨by rw [g2, h1], d, g1, h3.keep fun y ob tl hy hl => ?_⟩
  rcases hl with hl | ⟨j, hl⟩
  · exact g y ob hy (.inr (.inl hl))
  · exact g y ob hy (.inr (.inr ⟨j, hl⟩))
/-- The program's inventory lies there. -/
def SAt (S : List Ob) (lab : Lab) (o k : Nat) (s : Stk) : Prop := FreshL S lab ∧ ∃ m ps, StkAt S lab o kL (.loc k 0 0) s k m ps
theorem SAt.other {S T : List Ob} {lab lab' : Lab} {o o' k : Nat} {s : Stk} (h : SAt S lab o k s) (g : Step o' S lab T lab') (ho : o ≠ o') : SAt T lab' o k s := by
  obtain ⟨-, m, ps, h⟩ := h
  exact ⟨g.fresh, m, ps, h.keep (g.keepO ho)⟩
theorem SAt.push {S : List Ob} {lab : Lab} {o k : Nat} {s : Stk} (h : SAt S lab o k s) (J : List Ob) : SAt (S ++ J) lab o k s := by
  obtain ⟨hf, m, ps, h⟩ := h
  exact ⟨hf.push J, m, ps, h.push J⟩
section
variable {S : List Ob} {lab : Lab} {o k m n : Nat} {s : Stk} {ps : List (D × D)} {id : Lid}
theorem StkAt.add {T : List Ob} {lab' : Lab} {p : Nat} {x : Leg} (h : StkAt S lab o kL (.loc k 0 0) s k m ps) (hT : ∀ (z : Nat) (ob : Ob), z < S.length → z ≠ m → S[z]? = some ob → T[z]? = some ob) (hlab : ∀ z, z < S.length → lab' z = lab z)
    (hm : T[m]? = some (.map kL (ps ++ [(.agg id.enc, .loc p 0 0)]))) (hx : LegAt T lab' o s.legs.length p x) : StkAt T lab' o kL (.loc k 0 0) { s with legs := s.legs ++ [(id, x)] } k m (ps ++ [(.agg id.enc, .loc p 0 0)]) where
  dat := rfl
  labk := by rw [hlab k (lt_of_get h.row), h.labk]
  labm := by rw [hlab m (lt_of_get h.map), h.labm]
  row := hT k _ (lt_of_get h.row) (fun e => by
    have h1 := h.labk
    rw [e, h.labm] at h1
    simp at h1) h.row
  map := hm
  len := by simp [h.len]
  leg i id' y hy := by
    rcases get_snoc hy with hy | ⟨rfl, e⟩
    · obtain ⟨p', h1, h2⟩ := h.leg i id' y hy
      refine ⟨p', by rw [List.getElem?_append_left (lt_of_get h1)]; exact h1, h2.keep' fun z ob hz hl => ⟨hT z ob (lt_of_get hz) (fun e => ?_) hz, hlab z (lt_of_get hz)⟩⟩
      have hm' := h.labm
      rw [← e] at hm'
      rcases hl with hl | hl | ⟨j, hl⟩ <;> rw [hl] at hm' <;> simp at hm'
    · cases e
      exact ⟨p, by rw [← h.len, List.getElem?_append_right (Nat.le_refl _), Nat.sub_self]; rfl, hx⟩
/-- One leg is changed. -/
theorem StkAt.upd {T : List Ob} {lab' : Lab} {i p : Nat} {x : Leg} {f : Leg → Leg} (h : StkAt S lab o kL (.loc k 0 0) s k m ps) (hnd : (s.legs.map (·.1)).Nodup) (hi : s.legs[i]? = some (id, x)) (hp : ps[i]? = some (.agg id.enc, .loc p 0 0))
    (hT : ∀ (z : Nat) (ob : Ob), S[z]? = some ob → lab z ≠ [o, 1, i] → lab z ≠ [o, 2, i] → (∀ j, lab z ≠ [o, 3, i, j]) → T[z]? = some ob) (hlab : ∀ z, z < S.length → lab' z = lab z) (hx : LegAt T lab' o i p (f x)) : StkAt T lab' o kL (.loc k 0 0) { s with legs := updL s.legs id f } k m ps where
  dat := rfl
  labk := by rw [hlab k (lt_of_get h.row), h.labk]
  labm := by rw [hlab m (lt_of_get h.map), h.labm]
  row := hT k _ h.row (by rw [h.labk]; simp) (by rw [h.labk]; simp) (by rw [h.labk]; simp)
  map := hT m _ h.map (by rw [h.labm]; simp) (by rw [h.labm]; simp) (by rw [h.labm]; simp)
  len := by rw [h.len, updL_len]
  leg i' id' y hy := by
    unfold updL at hy
    rw [List.getElem?_map] at hy
    obtain ⟨q, hq, e⟩ := Option.map_eq_some_iff.1 hy
    obtain ⟨p', h1, h2⟩ := h.leg i' q.1 q.2 hq
    by_cases hii : i' = i
    · subst hii
      rw [hi] at hq
      cases hq
      rw [if_pos rfl] at e
      cases e
      exact ⟨p, hp, hx⟩
    · have hne : q.1 ≠ id := by
        intro e'
        have h3 : (s.legs.map (·.1))[i']? = some id := by rw [List.getElem?_map, hq, ← e']; rfl
        have h4 : (s.legs.map (·.1))[i]? = some id := by rw [List.getElem?_map, hi]; rfl
        exact hii ((List.getElem?_inj (lt_of_get h3) hnd).1 (h3.trans h4.symm))
      rw [if_neg hne] at e
      subst e
      refine ⟨p', h1, h2.keep' fun z ob hz hl => ⟨hT z ob hz ?_ ?_ ?_, hlab z (lt_of_get hz)⟩⟩
      all_goals rcases hl with hl | hl | ⟨j, hl⟩ <;> rw [hl] <;> simp <;> omega
/-- The leg's own cells are written. -/
theorem StkAt.cell {i p q : Nat} {x : Leg} {f : Leg → Leg} (h : StkAt S lab o kL (.loc k 0 0) s k m ps) (hf : FreshL S lab) (hnd : (s.legs.map (·.1)).Nodup) (hi : s.legs[i]? = some (id, x)) (hp : ps[i]? = some (.agg id.enc, .loc p 0 0)) (hx : LegAt S lab o i p x)
    (hpS : S[p]? = some (.row 4 [legCells x (.os q 0 x.sold.length false)])) (hfx : (f x).sold = x.sold) :
    SAt (S.set p (.row 4 [legCells (f x) (.os q 0 x.sold.length false)])) lab o k { s with legs := updL s.legs id f } ∧ Step o S lab (S.set p (.row 4 [legCells (f x) (.os q 0 x.sold.length false)])) lab := by
  have hlp := hx.1
  have hst : Step o S lab (S.set p (.row 4 [legCells (f x) (.os q 0 x.sold.length false)])) lab := Step.set hf _ (by rw [hlp]; rfl)
  refine ⟨⟨hst.fresh, m, ps, h.upd hnd hi hp (fun z ob hz n1 n2 n3 => ?_) (fun _ _ => rfl) ⟨hlp, _, List.getElem?_set_self (lt_of_get hpS), ?_⟩⟩, hst⟩
  · rw [List.getElem?_set_ne]
    · exact hz
    · rintro rfl; exact n1 hlp
  · obtain ⟨-, d, h2, h3⟩ := hx
    rw [hpS] at h2
    have : d = .os q 0 x.sold.length false := by simpa [legCells] using h2.symm
    subst this
    rw [hfx]
    refine h3.keep fun z ob tl hz hl => ⟨?_, rfl⟩
    rw [List.getElem?_set_ne]
    · exact hz
    · rintro rfl
      rw [hlp] at hl
      rcases hl with hl | ⟨j, hl⟩ <;> simp at hl
end
end Go.Proofs.YtajhgnefcddenaaDoor.Dm
