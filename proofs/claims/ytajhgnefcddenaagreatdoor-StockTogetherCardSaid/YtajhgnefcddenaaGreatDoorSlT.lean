/-
  Plain laws of StockTogether: two legs are sold together exactly if each of them is sold alone.
  A map in the store may be told in any order.
-/
import Derived.Test.YtajhgnefcddenaaGreatDoorSlL
import Derived.Test.YtajhgnefcddenaaGreatDoorMw
namespace Go.Proofs.YtajhgnefcddenaaGreatDoor.Dm
open Go Gw
set_option linter.unusedSimpArgs false

theorem sell_zero {s : Stk} {ids : List Lid} {cl : ByteArray} {n : Int} : (s.sell ids cl n).1 = 0 ↔ 1 ≤ n ∧ ids ≠ [] ∧ ids.Nodup ∧ ∀ id ∈ ids, n ≤ s.left id cl := by
  constructor
  · intro h
    have hnm := (sell_inv h).2.1
    obtain ⟨h1, h2, h3, -⟩ := named_inv hnm
    refine ⟨h1, h2, h3, fun id hid => ?_⟩
    by_cases hl : n ≤ s.left id cl
    · exact hl
    · exact absurd h (sell_no ⟨id, hid, by omega⟩)
  · rintro ⟨h1, h2, h3, h4⟩
    rw [sell_ok h1 h2 h3 h4]
theorem left_addIds {s : Stk} {x y : Lid} {cl cl' : ByteArray} {n : Int} (h : y ≠ x) : Stk.left { s with legs := addIds cl n [x] s.legs } y cl' = s.left y cl' := by
  unfold Stk.left Stk.get
  dsimp only
  rw [getL_addIds cl n y [x] s.legs (by simp), if_neg (by simpa using h)]
/-- What the three sales of the law come to. -/
theorem together_law {s : Stk} {x y : Lid} {cl : ByteArray} {n : Int} (hxy : x ≠ y) :
    ((s.sell [x, y] cl n).1 = 0 ↔ (s.sell [x] cl n).1 = 0 ∧ ((s.sell [x] cl n).2.sell [y] cl n).1 = 0) ∧
    ((s.sell [x, y] cl n).1 = 0 → ((s.sell [x] cl n).2.sell [y] cl n).2 = (s.sell [x, y] cl n).2) := by
  have hy : ∀ {u : Stk}, u = s ∨ u = { s with legs := addIds cl n [x] s.legs } → u.left y cl = s.left y cl := by
    rintro u (rfl | rfl)
    · rfl
    · exact left_addIds (Ne.symm hxy)
  have hu : (s.sell [x] cl n).2 = s ∨ (s.sell [x] cl n).2 = { s with legs := addIds cl n [x] s.legs } := by
    by_cases h : (s.sell [x] cl n).1 = 0
    · exact .inr (sell_inv h).1
    · exact .inl (sell_err h)
  have hl := hy hu
  refine ⟨?_, fun h => ?_⟩
  · rw [sell_zero, sell_zero, sell_zero]
    constructor
    · rintro ⟨h1, -, -, h4⟩
      refine ⟨⟨h1, by simp, by simp, fun id hid => h4 id (by simp at hid; simp [hid])⟩, h1, by simp, by simp, fun id hid => ?_⟩
      have e : id = y := by simpa using hid
      rw [e, hl]
      exact h4 y (by simp)
    · rintro ⟨⟨h1, -, -, h4⟩, -, -, -, h5⟩
      refine ⟨h1, by simp, by simp [hxy], fun id hid => ?_⟩
      rcases List.mem_cons.1 hid with rfl | hid
      · exact h4 _ (by simp)
      · have e : id = y := by simpa using hid
        rw [e, ← hl]
        exact h5 y (by simp)
  · have h0 := h
    rw [sell_zero] at h
    obtain ⟨h1, -, -, h4⟩ := h
    have e1 := sell_ok (s := s) (ids := [x]) (cl := cl) (n := n) h1 (by simp) (by simp) (fun id hid => h4 id (by simp at hid; simp [hid]))
    have e2 := sell_ok (s := s) (ids := [x, y]) (cl := cl) (n := n) h1 (by simp) (by simp [hxy]) h4
    rw [e1, e2]
    have e3 := sell_ok (s := { s with legs := addIds cl n [x] s.legs }) (ids := [y]) (cl := cl) (n := n) h1 (by simp) (by simp) (fun id hid => by
      have e : id = y := by simpa using hid
      rw [e, left_addIds (Ne.symm hxy)]
      exact h4 y (by simp))
    dsimp only
    rw [e3]
    rfl
/-! ### A map in another order -/
theorem set_alive {T : List Ob} {m : Nat} {o o' : Ob} (hm : T[m]? = some o) (hd : o ≠ .dead) {k : Nat} {ob : Ob} (h : (T.set m o')[k]? = some ob) (ho : ob ≠ .dead) : ∃ ob0, T[k]? = some ob0 ∧ ob0 ≠ .dead := by
  by_cases e : k = m
  · subst e; exact ⟨o, hm, hd⟩
  · rw [List.getElem?_set_ne (Ne.symm e)] at h
    exact ⟨ob, h, ho⟩
theorem SR.reorder {W : World} {C : Cx} {T : List Ob} {m : Nat} {kt : TypeId} {l l' : List (D × D)} (h : SR W C T) (hm : T[m]? = some (.map kt l)) (hp : l.Perm l') : SR W C (T.set m (.map kt l')) where
  ob k ob hk hd := by
    by_cases e : k = m
    · subst e
      rw [List.getElem?_set_self (List.getElem?_eq_some_iff.1 hm).1] at hk
      cases hk
      obtain ⟨g, sz, tot, T', h1, h2, h3, h4⟩ := h.ob _ _ hm (by simp)
      obtain ⟨es, clock, mm, a1, a2, a3⟩ := h2
      exact ⟨g, sz, tot, T', h1, ⟨es, clock, mm, a1, a2.trans hp, a3⟩, h3, h4⟩
    · rw [List.getElem?_set_ne (Ne.symm e)] at hk
      exact h.ob k ob hk hd
  fresh k x hx := by rw [List.length_set]; exact h.fresh k x hx
  inj k k' ob ob' x x' hk hd hk' hd' := by
    obtain ⟨o1, g1, g2⟩ := set_alive hm (by simp) hk hd
    obtain ⟨o2, g3, g4⟩ := set_alive hm (by simp) hk' hd'
    exact h.inj k k' o1 o2 x x' g1 g2 g3 g4
  imm := h.imm
theorem Fr.reorder {W W' : World} {C C' : Cx} {S T : List Ob} {m : Nat} {kt : TypeId} {l l' : List (D × D)} (h : Fr W C S W' C' T) (hm : T[m]? = some (.map kt l)) : Fr W C S W' C' (T.set m (.map kt l')) :=
  ⟨h.os, h.tape, h.output, h.size, h.keep, fun b ⟨k, ob, sz, tot, T', h1, h2, h3⟩ => by
    obtain ⟨o1, g1, g2⟩ := set_alive hm (by simp) h1 h2
    exact h.live b ⟨k, o1, sz, tot, T', g1, g2, h3⟩, h.R, h.I, h.P, h.newI, by rw [List.length_set]; exact h.len, h.newR⟩
end Go.Proofs.YtajhgnefcddenaaGreatDoor.Dm
