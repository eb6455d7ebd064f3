/-
  Legs of an inventory in the store.
  The order of identifiers: an element laid into a sorted list.
-/
import Derived.Test.YtajhgnefcddenaaGreatDoorEnvB
import Derived.Test.YtajhgnefcddenaaGreatDoorSkV
namespace Go.Proofs.YtajhgnefcddenaaGreatDoor.Dm
open Go Gw
set_option linter.unusedSimpArgs false

/-- A list of identifiers as Legs hands it back. -/
def legsD (l : List Lid) : D := if l.isEmpty then .nils else .sl 4 ((Lg.sortL l).map Lid.enc) false
theorem legs_prim {S : List Ob} {k m : Nat} {c0 : D} {ps : List (D × D)} {ls : List Lid} (hk : S[k]? = some (.row 2 [[c0, .map m]])) (hm : S[m]? = some (.map 50 ps)) (hl : ps.map (·.1) = ls.map (fun x => .agg x.enc)) (h12 : ls.length ≤ 12) :
    Lg.legsQ [.loc k 0 0] S = some (legsD ls, S) := by
  have hlen : ps.length = ls.length := by
    have := congrArg List.length hl
    simpa using this
  have hall : ps.all (fun p => Lg.isLid p.1) = true := by
    rw [List.all_eq_true]
    intro p hp
    have : p.1 ∈ ps.map (·.1) := List.mem_map.2 ⟨p, hp, rfl⟩
    rw [hl] at this
    obtain ⟨x, -, hx⟩ := List.mem_map.1 this
    rw [← hx]; rfl
  have hemp : ps.isEmpty = ls.isEmpty := by
    cases ps <;> cases ls <;> simp_all
  unfold Lg.legsQ
  simp only [hk, hm]
  rw [if_pos ⟨trivial, by omega, hall⟩, hemp, Lg.keys_sorted hl]
  rfl
theorem Legs_c {n : Nat} {S : List Ob} {k m : Nat} {c0 : D} {ps : List (D × D)} {ls : List Lid} (hn : 1 ≤ n) (hk : S[k]? = some (.row 2 [[c0, .map m]])) (hm : S[m]? = some (.map 50 ps)) (hl : ps.map (·.1) = ls.map (fun x => .agg x.enc)) (h12 : ls.length ≤ 12) (st : Bool) :
    callD E (dcall E n) st S 69 [.loc k 0 0] = some (legsD ls, S) := by
  obtain ⟨q, rfl⟩ : ∃ q, n = q + 1 := ⟨n - 1, by omega⟩
  have h : dcall E (q + 1) 69 [.loc k 0 0] S = some (legsD ls, S ++ []) := by
    rw [List.append_nil]
    show Lg.legsP _ S = _
    unfold Lg.legsP
    rw [legs_prim hk hm hl h12]
  have := callD_ext (st := st) (show E.mode 69 = .ext from rfl) h
  rwa [List.append_nil] at this
theorem SLegs_c {n : Nat} {S : List Ob} {lab : Lab} {o k : Nat} {s : Stk} (hn : 1 ≤ n) (h : SAt S lab o k s) (h12 : s.legs.length ≤ 12) (st : Bool) :
    callD E (dcall E n) st S 69 [.loc k 0 0] = some (legsD (s.legs.map (·.1)), S) := by
  obtain ⟨-, m, ps, h⟩ := h
  refine Legs_c hn h.row h.map ?_ (by rw [List.length_map]; exact h12) st
  refine List.ext_getElem? fun i => ?_
  rw [List.getElem?_map, List.getElem?_map, List.getElem?_map]
  rcases hi : s.legs[i]? with _ | ⟨id, x⟩
  · have : ps[i]? = none := by
      rw [List.getElem?_eq_none_iff] at hi ⊢
      rw [h.len]; exact hi
    rw [this]; rfl
  · obtain ⟨p, hp, -⟩ := h.leg i id x hi
    rw [hp]; rfl
/-- The legs of an inventory on which calls on six legs were made are six at most. -/
theorem ids_six {ids : List Lid} (hn : ids.Nodup) (hs : ∀ id ∈ ids, ∃ j, id = idF j) : ids.length ≤ 6 := by
  have hsub : ∀ id ∈ ids, id ∈ (List.range 6).map idF := fun id hid => by
    obtain ⟨j, rfl⟩ := hs id hid
    refine List.mem_map.2 ⟨j % 6, List.mem_range.2 (Nat.mod_lt _ (by decide)), ?_⟩
    unfold idF
    rw [Nat.mod_mod]
  have := hn.length_le_of_subset hsub
  simpa using this
end Go.Proofs.YtajhgnefcddenaaGreatDoor.Dm
namespace Go.Proofs.YtajhgnefcddenaaGreatDoor.Dm
open Go Gw
set_option linter.unusedSimpArgs false
namespace Lg
abbrev leB (a b : Lid) : Prop := (!lt cmpL b a) = true
theorem leB_trans {a b c : Lid} (h1 : leB a b) (h2 : leB b c) : leB a c := by
  simp only [leB, Bool.not_eq_true'] at *
  exact co_lid.swo.ntrans _ _ _ h2 h1
theorem leB_of_lt {a b : Lid} (h : lt cmpL a b = true) : leB a b := by
  simp only [leB, Bool.not_eq_true']
  cases h1 : lt cmpL b a
  · rfl
  · have := co_lid.swo.trans _ _ _ h h1
    rw [co_lid.swo.irrefl] at this
    cases this
theorem sortL_sorted (l : List Lid) : (sortL l).Pairwise leB := by
  have tr : ∀ a b c : Lid, (!lt cmpL b a) = true → (!lt cmpL c b) = true → (!lt cmpL c a) = true := fun a b c h1 h2 => leB_trans h1 h2
  have tt : ∀ a b : Lid, ((!lt cmpL b a) || (!lt cmpL a b)) = true := fun a b => by
    cases h1 : lt cmpL b a
    · rfl
    · have := leB_of_lt h1
      simp only [leB] at this
      rw [this]; rfl
  exact List.pairwise_mergeSort tr tt l
theorem sortL_ins {l o : List Lid} {x : Lid} {k : Nat} (ho : o = sortL l) (h1 : ∀ j y, j < k → o[j]? = some y → lt cmpL y x = true) (h2 : ∀ y, o[k]? = some y → lt cmpL y x = false) : sortL (l ++ [x]) = o.take k ++ x :: o.drop k := by
  have hs := sortL_sorted l
  rw [← ho] at hs
  have hsplit : o.take k ++ o.drop k = o := List.take_append_drop k o
  rw [← hsplit, List.pairwise_append] at hs
  obtain ⟨s1, s2, s3⟩ := hs
  have hx1 : ∀ a ∈ o.take k, lt cmpL a x = true := fun a ha => by
    obtain ⟨j, hj⟩ := List.mem_iff_getElem?.1 ha
    rw [List.getElem?_take] at hj
    split at hj
    · rename_i hjk; exact h1 j a hjk hj
    · cases hj
  have hx2 : ∀ b ∈ o.drop k, leB x b := fun b hb => by
    rcases hd : o.drop k with _ | ⟨y, rest⟩
    · rw [hd] at hb; cases hb
    · have hy : o[k]? = some y := by
        have := List.getElem?_drop (xs := o) (i := k) (j := 0)
        rw [hd] at this
        simpa using this.symm
      have hxy : leB x y := by simp only [leB, h2 y hy, Bool.not_false]
      rw [hd] at hb s2
      rcases List.mem_cons.1 hb with rfl | hb
      · exact hxy
      · exact leB_trans hxy ((List.pairwise_cons.1 s2).1 b hb)
  have hres : (o.take k ++ x :: o.drop k).Pairwise leB := by
    rw [List.pairwise_append, List.pairwise_cons]
    refine ⟨s1, ⟨hx2, s2⟩, fun a ha b hb => ?_⟩
    rcases List.mem_cons.1 hb with rfl | hb
    · exact leB_of_lt (hx1 a ha)
    · exact s3 a ha b hb
  have hperm : (sortL (l ++ [x])).Perm (o.take k ++ x :: o.drop k) := by
    refine (List.mergeSort_perm _ _).trans ?_
    have h : (l ++ [x]).Perm (x :: l) := List.perm_append_comm
    refine h.trans ((List.Perm.cons x ?_).trans List.perm_middle.symm)
    rw [hsplit, ho]
    exact (List.mergeSort_perm _ _).symm
  refine List.Perm.eq_of_pairwise (le := leB) (fun a b _ _ q1 q2 => ?_) (sortL_sorted _) hres hperm
  simp only [leB, Bool.not_eq_true'] at q1 q2
  exact co_lid.tot a b q2 q1
theorem sortL_len (l : List Lid) : (sortL l).length = l.length := (List.mergeSort_perm _ _).length_eq
/-- The order, field by field. -/
theorem lt_lid (a b : Lid) : lt cmpL a b = if a.c = b.c then (if a.n = b.n then (if a.d = b.d then Op.bytesLess a.f.toList b.f.toList else decide (a.d < b.d)) else decide (a.n < b.n)) else Op.bytesLess a.c.toList b.c.toList := by
  have lts : ∀ x y : ByteArray, decide (cmpS x y < 0) = Op.bytesLess x.toList y.toList := fun x y => by
    unfold cmpS
    cases h : Op.bytesLess x.toList y.toList
    · rw [if_neg (by simp)]
      split <;> simp
    · rw [if_pos rfl]; simp
  have lti : ∀ x y : Int, decide (cmpI x y < 0) = decide (x < y) := fun x y => by
    unfold cmpI
    split
    · rename_i h; simp [h]
    · rename_i h
      split <;> simp <;> omega
  unfold lt cmpL or4
  by_cases e1 : a.c = b.c
  · rw [if_pos e1, e1, co_str.refl, if_neg (by simp)]
    by_cases e2 : a.n = b.n
    · rw [if_pos e2, e2, co_int.refl, if_neg (by simp)]
      by_cases e3 : a.d = b.d
      · rw [if_pos e3, e3, co_int.refl, if_neg (by simp)]
        exact lts _ _
      · rw [if_neg e3, if_pos (fun h => e3 (co_int.eq0 _ _ h))]
        exact lti _ _
    · rw [if_neg e2, if_pos (fun h => e2 (co_int.eq0 _ _ h))]
      exact lti _ _
  · rw [if_neg e1, if_pos (fun h => e1 (co_str.eq0 _ _ h))]
    exact lts _ _
end Lg
theorem sortL_nil : Lg.sortL [] = [] := by simp [Lg.sortL]
end Go.Proofs.YtajhgnefcddenaaGreatDoor.Dm
