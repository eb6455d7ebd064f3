/-
  More words for runs of the machine.
  A sequence, cut behind its first part.
  The machine with more fuel hands back the same.
  Regions that are run by a plan, by weakest preconditions: every order has the same end.
-/
import Derived.Test.YtajhgnefcddenaaDoorWp
namespace Go.Proofs.YtajhgnefcddenaaDoor.Dm
open Go
theorem le_max {n : Nat} (h : n ≤ 1000000000) : (n ≤ maxLen) = True := by
  simp only [maxLen, eq_iff_iff, iff_true]; omega
def evParts (ev : Operand → D) : List (Nat × Operand) → List (Nat × D)
  | [] => []
  | (i, x) :: l => (i, ev x) :: evParts ev l
theorem evParts_map {ev : Operand → D} : ∀ l : List (Nat × Operand), (l.map fun p => (p.1, ev p.2)) = evParts ev l
  | [] => rfl
  | (i, x) :: l => by rw [List.map_cons, evParts_map l]; rfl
theorem wo_build {E : Env} {call : Call} {dr : Bool} {ev : Operand → D} {S : List Ob} {t : TypeId} {l : List (Nat × Operand)} {Q : D → List Ob → Prop} :
    WO (dOp E call dr ev S (.build t l.toArray)) Q = WO ((dBuild E.P t (evParts ev l)).map (·, S)) Q := by
  rw [← evParts_map]; rfl
theorem wo_buildSlice {E : Env} {call : Call} {dr : Bool} {ev : Operand → D} {S : List Ob} {t : TypeId} {n : Nat} {l : List (Nat × Operand)} {Q : D → List Ob → Prop} :
    WO (dOp E call dr ev S (.buildSlice t n l.toArray)) Q = WO ((dBuildSlice E.P t n (evParts ev l)).map (·, S)) Q := by
  rw [← evParts_map]; rfl
theorem wc_scut {E : Env} {call : Call} {n : Nat} {x y : Code} {a : List D} {S : List Ob} {Q : PostX} (P : List D → List Ob → Prop) (h : WC (codeD E call n x a S) fun r a S => r = .normal ∧ P a S) (k : ∀ a S, P a S → WC (codeD E call n y a S) Q) :
    WC (codeD E call n (.seq x y) a S) Q := by
  rw [wc_seq]
  refine wc_mono h ?_
  rintro r a S ⟨rfl, hp⟩
  exact k a S hp

def CallLe (c c' : Call) : Prop := ∀ f a S r, c f a S = some r → c' f a S = some r
section
variable {E : Env} {c c' : Call} (h : CallLe c c')
end
mutual
theorem beqD_refl : ∀ d : D, beqD d d = true
  | .undef => rfl
  | .bool a => by simp [beqD]
  | .int k a => by simp [beqD]
  | .str a => by simp [beqD]
  | .nilp => rfl
  | .ref a o => by simp [beqD, beqL_refl a]
  | .loc k i o => by simp [beqD]
  | .nils => rfl
  | .sl z a x => by simp [beqD, beqLL_refl a]
  | .os k i n x => by simp [beqD]
  | .osc k i n c => by simp [beqD]
  | .itE k => by simp [beqD]
  | .nilm => rfl
  | .it0 => rfl
  | .map k => by simp [beqD]
  | .nilf => rfl
  | .func f a b => by simp [beqD, beqL_refl a, beqL_refl b]
  | .nili => rfl
  | .iface t a => by simp [beqD, beqD_refl a]
  | .agg a => by simp [beqD, beqL_refl a]
  | .tup a => by simp [beqD, beqL_refl a]
theorem beqL_refl : ∀ l : List D, beqL l l = true
  | [] => rfl
  | a :: l => by simp [beqL, beqD_refl a, beqL_refl l]
theorem beqLL_refl : ∀ l : List (List D), beqLL l l = true
  | [] => rfl
  | a :: l => by simp [beqLL, beqL_refl a, beqLL_refl l]
end
theorem beqP_refl : ∀ l : List (D × D), beqP l l = true
  | [] => rfl
  | (a, b) :: l => by simp [beqP, beqD_refl a, beqD_refl b, beqP_refl l]
theorem beqOb_refl (o : Ob) : beqOb o o = true := by
  cases o <;> simp [beqOb, beqLL_refl, beqP_refl]
section
variable {call : Call} {ops : Array Oper} {a : List D} {S : List Ob} {Q : Post}
theorem wc_plan {pr : PrimF} {n i : Nat} {l : List Oper} {p : Plan} {Q : PostX} (hp : planOf i l.toArray = some ([], p)) : WC (codeD (envOf pr) call n (.region i l.toArray true) a S) Q = WR (planD (envOf pr) call l.toArray [] S.length p a S) (Q .normal) := by
  have hc : codeD (envOf pr) call n (.region i l.toArray true) a S = match planD (envOf pr) call l.toArray [] S.length p a S with
    | some (a', S') => some (DX.normal, a', S')
    | none => none := by
    have hp' : (envOf pr).plan i l.toArray = some ([], p) := hp
    simp only [codeD, hp', if_true, List.length_nil, List.replicate_zero, List.append_nil]
    rfl
  rw [hc]
  rcases planD (envOf pr) call l.toArray [] S.length p a S with _ | ⟨a', S'⟩
  · simp only [wc_none, wr_none]
  · simp only [wc_some, wr_some]
theorem wp_done {pr : PrimF} {b : Nat} : WR (planD (envOf pr) call ops [] b .done a S) Q = Q a S := wr_some
theorem wp_steps {pr : PrimF} {b : Nat} {p : Plan} : ∀ {l : List Nat} {ol : List Oper} {a : List D} {S : List Ob}, l.map (fun i => ops[i]?) = ol.map some → WR (planD (envOf pr) call ops [] b (steps l p) a S) Q = WR (runD (envOf pr) call true ops ol a S) fun a S => WR (planD (envOf pr) call ops [] b p a S) Q
  | [], [], a, S, _ => by simp only [steps, runD, wr_some]
  | [], o :: ol, a, S, h => by simp at h
  | i :: l, [], a, S, h => by simp at h
  | i :: l, o :: ol, a, S, h => by
    simp only [List.map_cons, List.cons.injEq] at h
    simp only [steps, planD, h.1, stepW, slotN, runD]
    rcases stepD (envOf pr) call true ops o a S with _ | ⟨a', S'⟩
    · simp only [wr_none]
    · exact wp_steps h.2
/-- The operations that a list names. -/
def opsOf (ops : Array Oper) (l : List Nat) : List Oper := l.filterMap fun i => ops[i]?
theorem wp_pick {pr : PrimF} {b : Nat} {p : Plan} {l : List Nat} (h : l.all (fun i => decide (i < ops.size)) = true) : WR (planD (envOf pr) call ops [] b (steps l p) a S) Q = WR (runD (envOf pr) call true ops (opsOf ops l) a S) fun a S => WR (planD (envOf pr) call ops [] b p a S) Q := by
  refine wp_steps ?_
  induction l with
  | nil => rfl
  | cons i l ih =>
    simp only [List.all_cons, Bool.and_eq_true, decide_eq_true_eq] at h
    have hi : ops[i]? = some ops[i] := by simp [h.1]
    simp only [opsOf, List.filterMap_cons, hi, List.map_cons, List.cons.injEq, true_and]
    exact ih h.2
end
theorem set_sort {α : Type} {l : List α} {i j : Nat} {x y : α} (h : j < i) : (l.set i x).set j y = (l.set j y).set i x := List.set_comm _ _ (Nat.ne_of_gt h)
end Go.Proofs.YtajhgnefcddenaaDoor.Dm
