/-
  A plan, cut behind its branchings.
-/
import Derived.Test.YtajhgnefcddenaaGreatDoorWq
namespace Go.Proofs.YtajhgnefcddenaaGreatDoor.Dm
open Go

/-- As set_sort; simp would take that one for a permutation and apply it by its own order of terms. -/
theorem set_sorti {α : Type} {l : List α} {i j : Nat} {x y : α} (h : j < i) : (l.set i x).set j y = (l.set j (id y)).set i x := List.set_comm _ _ (Nat.ne_of_gt h)
def Plan.andThen : Plan → Plan → Plan
  | .done, r => r
  | .step i p, r => .step i (p.andThen r)
  | .both p q, r => .both (p.andThen r) (q.andThen r)
theorem planD_then {E : Env} {call : Call} {ops : Array Oper} {L : List Nat} {b : Nat} {r : Plan} : ∀ {p : Plan} {a a' : List D} {S S' : List Ob}, planD E call ops L b p a S = some (a', S') → ∀ {z : List D × List Ob}, planD E call ops L b r a' S' = some z → planD E call ops L b (p.andThen r) a S = some z
  | .done, a, a', S, S', h, z, hz => by
    simp only [planD, Option.some.injEq, Prod.mk.injEq] at h
    obtain ⟨rfl, rfl⟩ := h
    exact hz
  | .step i p, a, a', S, S', h, z, hz => by
    unfold Plan.andThen
    rw [planD] at h ⊢
    split at h
    · rename_i o ho
      try rw [ho]
      try dsimp only
      cases hd : stepW E call ops L b i o a S with
      | none => rw [hd] at h; cases h
      | some w =>
        rw [hd] at h
        exact planD_then (p := p) h hz
    · cases h
  | .both p q, a, a', S, S', h, z, hz => by
    unfold Plan.andThen
    rw [planD] at h ⊢
    cases h1 : planD E call ops L b p a S with
    | none => rw [h1] at h; cases h
    | some x =>
      cases h2 : planD E call ops L b q a S with
      | none => rw [h1, h2] at h; cases h
      | some y =>
        rw [h1, h2] at h
        obtain ⟨x1, x2⟩ := x
        obtain ⟨y1, y2⟩ := y
        dsimp only at h
        split at h
        · rename_i hb
          rw [Bool.and_eq_true] at hb
          have e1 := beqL_eq _ _ hb.1
          have e2 := beqS_eq hb.2
          subst e1 e2
          cases h
          rw [planD_then h1 hz, planD_then h2 hz]
          simp only [beqL_refl, beqS_refl, Bool.and_self, if_true]
        · cases h
theorem wp_then {E : Env} {call : Call} {ops : Array Oper} {L : List Nat} {b : Nat} {p r : Plan} {a : List D} {S : List Ob} {Q : Post} (h : WR (planD E call ops L b p a S) fun a' S' => WR (planD E call ops L b r a' S') Q) : WR (planD E call ops L b (p.andThen r) a S) Q := by
  obtain ⟨a', S', h1, b', T', h2, hq⟩ := h
  exact ⟨b', T', planD_then h1 h2, hq⟩
section
variable {call : Call} {ops : Array Oper} {a : List D} {S : List Ob} {Q : Post} {L : List Nat}
theorem wc_planL {n i : Nat} {l : List Oper} {p : Plan} {Q : PostX} (hp : planOf i l.toArray = some (L, p)) : WC (codeD Dm.E call n (.region i l.toArray true) a S) Q = WR (planD Dm.E call l.toArray L S.length p a (S ++ List.replicate L.length .dead)) (Q .normal) := by
  have hc : codeD Dm.E call n (.region i l.toArray true) a S = match planD Dm.E call l.toArray L S.length p a (S ++ List.replicate L.length .dead) with
    | some (a', S') => some (DX.normal, a', S')
    | none => none := by
    have hp' : Dm.E.plan i l.toArray = some (L, p) := hp
    simp only [codeD, hp', if_true]
    rfl
  rw [hc]
  generalize planD Dm.E call l.toArray L S.length p a (S ++ List.replicate L.length .dead) = r
  rcases r with _ | ⟨a', S'⟩
  · simp only [wc_none, wr_none]
  · simp only [wc_some, wr_some]
theorem wp_doneL {b : Nat} : WR (planD Dm.E call ops L b .done a S) Q = Q a S := wr_some
theorem wp_stepsL {b : Nat} {p : Plan} : ∀ {l : List Nat} {ol : List Oper} {a : List D} {S : List Ob}, l.map (fun i => ops[i]?) = ol.map some → (∀ i ∈ l, slotN L i = none) → WR (planD Dm.E call ops L b (steps l p) a S) Q = WR (runD Dm.E call true ops ol a S) fun a S => WR (planD Dm.E call ops L b p a S) Q
  | [], [], a, S, _, _ => by simp only [steps, runD, wr_some]
  | [], o :: ol, a, S, h, _ => by simp at h
  | i :: l, [], a, S, h, _ => by simp at h
  | i :: l, o :: ol, a, S, h, hs => by
    simp only [List.map_cons, List.cons.injEq] at h
    simp only [steps, planD, h.1, stepW, hs i (by simp), runD]
    rcases stepD Dm.E call true ops o a S with _ | ⟨a', S'⟩
    · simp only [wr_none]
    · exact wp_stepsL h.2 fun j hj => hs j (by simp [hj])
theorem wp_pickL {b : Nat} {p : Plan} {l : List Nat} (h : l.all (fun i => decide (i < ops.size) && (slotN L i).isNone) = true) : WR (planD Dm.E call ops L b (steps l p) a S) Q = WR (runD Dm.E call true ops (opsOf ops l) a S) fun a S => WR (planD Dm.E call ops L b p a S) Q := by
  refine wp_stepsL ?_ fun i hi => ?_
  · induction l with
    | nil => rfl
    | cons i l ih =>
      simp only [List.all_cons, Bool.and_eq_true, decide_eq_true_eq] at h
      have hi : ops[i]? = some ops[i] := by simp [h.1.1]
      simp only [opsOf, List.filterMap_cons, hi, List.map_cons, List.cons.injEq, true_and]
      exact ih h.2
  · have := List.all_eq_true.1 h i hi
    simp only [Bool.and_eq_true, Option.isNone_iff_eq_none] at this
    exact this.2
theorem wp_slot {b i s : Nat} {p : Plan} {t : TypeId} {z : D} {dst : Option Tmp} {ft : List Edge} {pos : String} {ty : TypeId} (ho : ops[i]? = some { op := .alloc t, dst := dst, guard := none, after := ft.toArray, pos := pos, type := ty }) (hs : slotN L i = some s) (hz : zeroT Tryz.prog t = some z) (h1 : z.cells.all D.one = true) (hd : S[b + s]? = some .dead) :
    WR (planD Dm.E call ops L b (.step i p) a S) Q = WR (planD Dm.E call ops L b p (putD a dst (.loc (b + s) 0 0)) (S.set (b + s) (.row z.cells.length [z.cells]))) Q := by
  have : zeroT Dm.E.P t = some z := hz
  simp only [planD, ho, stepW, hs, stepM, wantD, dMade, this, h1, if_true, hd]
theorem wp_bothL {b : Nat} {p q : Plan} (a1 : List D) (S1 : List Ob) (hp : WR (planD Dm.E call ops L b p a S) fun a' S' => a' = a1 ∧ S' = S1) (hq : WR (planD Dm.E call ops L b q a S) fun a' S' => a' = a1 ∧ S' = S1) (h : Q a1 S1) :
    WR (planD Dm.E call ops L b (.both p q) a S) Q := by
  obtain ⟨_, _, h1, rfl, rfl⟩ := hp
  obtain ⟨_, _, h2, rfl, rfl⟩ := hq
  refine ⟨_, _, ?_, h⟩
  simp only [planD, h1, h2, beqL_refl, beqS_refl, Bool.and_self, if_true]
end

end Go.Proofs.YtajhgnefcddenaaGreatDoor.Dm
