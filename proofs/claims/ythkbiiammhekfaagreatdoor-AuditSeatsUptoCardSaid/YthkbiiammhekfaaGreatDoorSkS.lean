/-
  The inventory of seats in the store: what lies where, whose it is, and what a step keeps.
-/
import Derived.Test.YthkbiiammhekfaaGreatDoorSkT
import Derived.Test.YthkbiiammhekfaaGreatDoorGl
set_option linter.unusedSimpArgs false
set_option linter.unusedVariables false
namespace Go.Proofs.YthkbiiammhekfaaGreatDoor.Dm
open Go Gw

/-- Whose a place of the store is; [] : nobody's. -/
abbrev Lab := Nat → List Nat
def FreshL (S : List Ob) (lab : Lab) : Prop := ∀ x, S.length ≤ x → lab x = []
/-- A step of an owner: what is not his is as it was. -/
structure Step (o : Nat) (S : List Ob) (lab : Lab) (T : List Ob) (lab' : Lab) : Prop where
  len : S.length ≤ T.length
  fresh : FreshL T lab'
  labs : ∀ x, x < S.length → lab' x = lab x
  keep : ∀ x, x < S.length → (lab x).head? ≠ some o → T[x]? = S[x]?
theorem Step.refl {o : Nat} {S : List Ob} {lab : Lab} (h : FreshL S lab) : Step o S lab S lab := ⟨Nat.le_refl _, h, fun _ _ => rfl, fun _ _ _ => rfl⟩
theorem Step.trans {o : Nat} {S T U : List Ob} {l m n : Lab} (h : Step o S l T m) (g : Step o T m U n) : Step o S l U n where
  len := Nat.le_trans h.len g.len
  fresh := g.fresh
  labs x hx := (g.labs x (Nat.lt_of_lt_of_le hx h.len)).trans (h.labs x hx)
  keep x hx hl := (g.keep x (Nat.lt_of_lt_of_le hx h.len) (by rw [h.labs x hx]; exact hl)).trans (h.keep x hx hl)
theorem lt_of_get {α : Type} {l : List α} {i : Nat} {x : α} (h : l[i]? = some x) : i < l.length := (List.getElem?_eq_some_iff.1 h).1
theorem FreshL.push {S : List Ob} {lab : Lab} (h : FreshL S lab) (J : List Ob) : FreshL (S ++ J) lab := fun x hx => h x (by rw [List.length_append] at hx; omega)
/-- New objects that are nobody's. -/
theorem Step.push {o : Nat} {S : List Ob} {lab : Lab} (h : FreshL S lab) (J : List Ob) : Step o S lab (S ++ J) lab where
  len := by rw [List.length_append]; omega
  fresh := h.push J
  labs _ _ := rfl
  keep x hx _ := List.getElem?_append_left hx
def setL (lab : Lab) (x : Nat) (t : List Nat) : Lab := fun y => if y = x then t else lab y
theorem setL_ne {lab : Lab} {x y : Nat} {t : List Nat} (h : y ≠ x) : setL lab x t y = lab y := by simp [setL, h]
/-- A new object of the owner. -/
theorem Step.add {o : Nat} {S : List Ob} {lab : Lab} (h : FreshL S lab) (ob : Ob) (t : List Nat) : Step o S lab (S ++ [ob]) (setL lab S.length t) where
  len := by rw [List.length_append]; omega
  fresh x hx := by
    rw [List.length_append, List.length_singleton] at hx
    rw [setL_ne (by omega)]
    exact h x (by omega)
  labs x hx := setL_ne (by omega)
  keep x hx _ := List.getElem?_append_left hx
/-- An object of the owner is written. -/
theorem Step.set {o : Nat} {S : List Ob} {lab : Lab} (h : FreshL S lab) {k : Nat} (ob : Ob) (hk : (lab k).head? = some o) : Step o S lab (S.set k ob) lab where
  len := by simp
  fresh x hx := h x (by simpa using hx)
  labs _ _ := rfl
  keep x hx hl := by
    rw [List.getElem?_set_ne]
    rintro rfl
    exact hl hk
theorem Step.other {o o' : Nat} {S T : List Ob} {l m : Lab} (h : Step o S l T m) (ho : o' ≠ o) {x : Nat} {ob : Ob} {t : List Nat} (hx : S[x]? = some ob) (hl : l x = o' :: t) : T[x]? = some ob ∧ m x = o' :: t := by
  have hlt := lt_of_get hx
  refine ⟨by rw [h.keep x hlt (by rw [hl]; simpa using ho)]; exact hx, by rw [h.labs x hlt]; exact hl⟩
/-- Nobody's places stay. -/
theorem Step.free {o : Nat} {S T : List Ob} {l m : Lab} (h : Step o S l T m) {x : Nat} {ob : Ob} (hx : S[x]? = some ob) (hl : l x = []) : T[x]? = some ob ∧ m x = [] := by
  have hlt := lt_of_get hx
  refine ⟨by rw [h.keep x hlt (by rw [hl]; simp)]; exact hx, by rw [h.labs x hlt]; exact hl⟩

abbrev encZ (n : Int) : List D := [.int .i64 n]
/-- The table of what is sold on leg i. -/
def TabAt (S : List Ob) (lab : Lab) (o i : Nat) (d : D) (t : List (List Int)) : Prop :=
  ∃ (q : Nat) (r : Nat → Nat) (es : List (List D)), d = .os q 0 t.length false ∧ lab q = [o, 2, i] ∧ S[q]? = some (.row 1 es) ∧ es.length = t.length ∧
    ∀ (j : Nat) (row : List Int), t[j]? = some row → es[j]? = some [.os (r j) 0 row.length false] ∧ lab (r j) = [o, 3, i, j] ∧ S[r j]? = some (.row 1 (row.map encZ))
/-- What lies at labelled places, kept. -/
def KeepO (o : Nat) (S : List Ob) (lab : Lab) (T : List Ob) (lab' : Lab) : Prop := ∀ (x : Nat) (ob : Ob) (t : List Nat), S[x]? = some ob → lab x = o :: t → T[x]? = some ob ∧ lab' x = o :: t
theorem KeepO.push {o : Nat} {S J : List Ob} {lab : Lab} : KeepO o S lab (S ++ J) lab := fun _ _ _ hx hl => ⟨get_old hx, hl⟩
theorem TabAt.keep {S T : List Ob} {lab lab' : Lab} {o i : Nat} {d : D} {t : List (List Int)} (h : TabAt S lab o i d t)
    (g : ∀ (x : Nat) (ob : Ob) (tl : List Nat), S[x]? = some ob → (lab x = [o, 2, i] ∨ ∃ j, lab x = [o, 3, i, j]) → T[x]? = some ob ∧ lab' x = lab x) : TabAt T lab' o i d t := by
  obtain ⟨q, r, es, rfl, hq, hs, hl, hr⟩ := h
  obtain ⟨g1, g2⟩ := g q _ [] hs (.inl hq)
  refine ⟨q, r, es, rfl, by rw [g2, hq], g1, hl, fun j row hj => ?_⟩
  obtain ⟨h1, h2, h3⟩ := hr j row hj
  obtain ⟨g1, g2⟩ := g (r j) _ [] h3 (.inr ⟨j, h2⟩)
  exact ⟨h1, by rw [g2, h2], g1⟩
theorem modify_get {α : Type} {l : List α} {i j : Nat} {f : α → α} {y : α} (h : (l.modify i f)[j]? = some y) : ∃ x, l[j]? = some x ∧ y = if i = j then f x else x := by
  rw [List.getElem?_modify] at h
  cases hx : l[j]? with
  | none => rw [hx] at h; cases h
  | some x =>
    rw [hx] at h
    refine ⟨x, rfl, ?_⟩
    have := Option.some.inj h
    rw [← this]
theorem TabAt.add {S : List Ob} {lab : Lab} {o i a b : Nat} {d : D} {t : List (List Int)} {row : List Int} {r : Nat} {n : Int} (h : TabAt S lab o i d t) (ha : t[a]? = some row) (hl : lab r = [o, 3, i, a]) (hr : ∃ (q : Nat) (es : List (List D)), d = .os q 0 t.length false ∧ S[q]? = some (.row 1 es) ∧ es[a]? = some [.os r 0 row.length false]) :
    TabAt (S.set r (.row 1 ((row.modify b (· + n)).map encZ))) lab o i d (addAt t a b n) := by
  obtain ⟨q, f, es, rfl, hq, hs, hel, hf⟩ := h
  obtain ⟨q', es', e1, hs', hes'⟩ := hr
  cases e1
  rw [hs] at hs'
  injection hs' with hs'
  injection hs' with _ hs'
  subst hs'
  obtain ⟨f1, f2, f3⟩ := hf a row ha
  have hfr : f a = r := by
    rw [f1] at hes'
    simpa using hes'
  have hne : r ≠ q := by rintro rfl; rw [hl] at hq; simp at hq
  refine ⟨q, f, es, by rw [addAt, List.length_modify], hq, by rw [List.getElem?_set_ne hne]; exact hs, by rw [addAt, List.length_modify]; exact hel, fun j y hj => ?_⟩
  obtain ⟨x, hx, rfl⟩ := modify_get hj
  obtain ⟨g1, g2, g3⟩ := hf j x hx
  by_cases haj : a = j
  · subst haj
    rw [ha] at hx
    cases hx
    rw [if_pos rfl, hfr, List.length_modify]
    rw [hfr] at g1 g2 g3
    exact ⟨g1, g2, List.getElem?_set_self (lt_of_get g3)⟩
  · rw [if_neg haj]
    refine ⟨g1, g2, ?_⟩
    rw [List.getElem?_set_ne]
    · exact g3
    · intro e
      rw [e, g2] at hl
      simp at hl
      omega

/-! ### The program's inventory -/
abbrev legCells (x : Leg) (d : D) : List D := [.str x.cfg.equip, .sl 4 (x.cfg.cabs.map Cab.enc) x.cfg.cabsx, d, .bool x.closed]
def LegAt (S : List Ob) (lab : Lab) (o i p : Nat) (x : Leg) : Prop :=
  lab p = [o, 1, i] ∧ ∃ d, S[p]? = some (.row 4 [legCells x d]) ∧ TabAt S lab o i d x.sold
structure StkAt (S : List Ob) (lab : Lab) (o : Nat) (kt : TypeId) (d : D) (s : Stk) (k m : Nat) (ps : List (D × D)) : Prop where
  dat : d = .loc k 0 0
  labk : lab k = [o, 0]
  labm : lab m = [o, 4]
  row : S[k]? = some (.row 2 [[.sl 2 (s.l.map Cfg.enc) s.x, .map m]])
  map : S[m]? = some (.map kt ps)
  len : ps.length = s.legs.length
  leg : ∀ (i : Nat) (id : Lid) (x : Leg), s.legs[i]? = some (id, x) → ∃ p, ps[i]? = some (.agg id.enc, .loc p 0 0) ∧ LegAt S lab o i p x
theorem LegAt.keep {S T : List Ob} {lab lab' : Lab} {o i p : Nat} {x : Leg} (h : LegAt S lab o i p x) (g : KeepO o S lab T lab') : LegAt T lab' o i p x := by
  obtain ⟨h1, d, h2, h3⟩ := h
  obtain ⟨g1, g2⟩ := g p _ _ h2 h1
  refine ⟨g2, d, g1, h3.keep fun y ob tl hy hl => ?_⟩
  rcases hl with hl | ⟨j, hl⟩
  · obtain ⟨g1, g2⟩ := g y _ _ hy hl
    exact ⟨g1, by rw [g2, hl]⟩
  · obtain ⟨g1, g2⟩ := g y _ _ hy hl
    exact ⟨g1, by rw [g2, hl]⟩
theorem StkAt.keep {S T : List Ob} {lab lab' : Lab} {o : Nat} {kt : TypeId} {d : D} {s : Stk} {k m : Nat} {ps : List (D × D)} (h : StkAt S lab o kt d s k m ps) (g : KeepO o S lab T lab') : StkAt T lab' o kt d s k m ps where
  dat := h.dat
  labk := (g k _ _ h.row h.labk).2
  labm := (g m _ _ h.map h.labm).2
  row := (g k _ _ h.row h.labk).1
  map := (g m _ _ h.map h.labm).1
  len := h.len
  leg i id x hx := by
    obtain ⟨p, h1, h2⟩ := h.leg i id x hx
    exact ⟨p, h1, h2.keep g⟩

/-! ### Keys -/
theorem key_eq (a b : Lid) : keyBeq (.agg a.enc) (.agg b.enc) = decide (a = b) := by
  cases a; cases b
  simp only [keyBeq, Lid.enc, kBeqs, kBeq, decide_true, Bool.true_and, Bool.and_true, Lid.mk.injEq]
  rw [Bool.eq_iff_iff]
  simp
theorem look_go {S : List Ob} {lab : Lab} {o : Nat} {id : Lid} : ∀ (ps : List (D × D)) (legs : List (Lid × Leg)) (n : Nat), ps.length = legs.length → (∀ (i : Nat) (id : Lid) (x : Leg), legs[i]? = some (id, x) → ∃ p, ps[i]? = some (.agg id.enc, .loc p 0 0) ∧ LegAt S lab o (i + n) p x) →
    (getL legs id = none ∧ lookM ps (.agg id.enc) = none) ∨ ∃ i x p, legs[i]? = some (id, x) ∧ (∀ j y, j < i → legs[j]? = some y → y.1 ≠ id) ∧ getL legs id = some x ∧ lookM ps (.agg id.enc) = some (.loc p 0 0) ∧ ps[i]? = some (.agg id.enc, .loc p 0 0) ∧ LegAt S lab o (i + n) p x
  | [], [], _, _, _ => .inl ⟨rfl, rfl⟩
  | q :: ps, (id', x) :: legs, n, hl, h => by
    obtain ⟨p, h1, h2⟩ := h 0 id' x rfl
    have hq : q = (.agg id'.enc, .loc p 0 0) := by simpa using h1
    subst hq
    by_cases e : id' = id
    · subst e
      refine .inr ⟨0, x, p, rfl, fun j y hj => by omega, ?_, ?_, rfl, h2⟩
      · simp [getL]
      · simp [lookM, key_eq]
    · have hk : keyBeq (.agg id'.enc) (.agg id.enc) = false := by rw [key_eq]; exact decide_eq_false e
      rcases look_go ps legs (n + 1) (by simpa using hl) (fun i id x hx => by
        obtain ⟨p, h1, h2⟩ := h (i + 1) id x (by simpa using hx)
        exact ⟨p, by simpa using h1, by rw [show i + (n + 1) = i + 1 + n by omega]; exact h2⟩) with ⟨g1, g2⟩ | ⟨i, y, p', g1, g0, g2, g3, g4, g5⟩
      · refine .inl ⟨?_, ?_⟩
        · simpa [getL, e] using g1
        · simpa [lookM, hk] using g2
      · refine .inr ⟨i + 1, y, p', by simpa using g1, fun j y hj hy => ?_, ?_, ?_, by simpa using g4, by rw [show i + 1 + n = i + (n + 1) by omega]; exact g5⟩
        · cases j with
          | zero => have : (id', x) = y := by simpa using hy
                    rw [← this]; exact e
          | succ j => exact g0 j y (by omega) (by simpa using hy)
        · simpa [getL, e] using g2
        · simpa [lookM, hk] using g3
theorem StkAt.look {S : List Ob} {lab : Lab} {o : Nat} {kt : TypeId} {d : D} {s : Stk} {k m : Nat} {ps : List (D × D)} (h : StkAt S lab o kt d s k m ps) (id : Lid) :
    (s.get id = none ∧ lookM ps (.agg id.enc) = none) ∨ ∃ i x p, s.legs[i]? = some (id, x) ∧ (∀ j y, j < i → s.legs[j]? = some y → y.1 ≠ id) ∧ s.get id = some x ∧ lookM ps (.agg id.enc) = some (.loc p 0 0) ∧ ps[i]? = some (.agg id.enc, .loc p 0 0) ∧ LegAt S lab o i p x := by
  have := look_go (id := id) ps s.legs 0 h.len (fun i id x hx => h.leg i id x hx)
  exact this
end Go.Proofs.YthkbiiammhekfaaGreatDoor.Dm
