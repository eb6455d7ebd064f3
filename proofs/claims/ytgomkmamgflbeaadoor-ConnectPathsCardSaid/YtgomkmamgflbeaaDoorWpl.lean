/-
  Regions that are run by a plan, by weakest preconditions: every order has the same end.
-/
import Derived.Test.YtgomkmamgflbeaaDoorWq
import Derived.Test.YtgomkmamgflbeaaDoorMono
namespace Go.Proofs.YtgomkmamgflbeaaDoor.Dm
open Go

mutual
theorem beqD_refl : ∀ d : D, beqD d d = true
  | .undef => rfl
  | .bool a => by simp [beqD]
  | .int k a => by simp [beqD]
  | .str a => by simp [beqD]
  | .nilp => rfl
  | .ref a o => by simp [beqD, beqL_refl a]
  | .loc k i o => by simp [beqD]
  | .nils => rfl
  | .sl z a x => by simp [beqD, beqLL_refl a]
  | .os k i n x => by simp [beqD]
  | .osc k i n c => by simp [beqD]
  | .itE k => by simp [beqD]
  | .nilm => rfl
  | .it0 => rfl
  | .map k => by simp [beqD]
  | .nilf => rfl
  | .func f a b => by simp [beqD, beqL_refl a, beqL_refl b]
  | .nili => rfl
  | .iface t a => by simp [beqD, beqD_refl a]
  | .agg a => by simp [beqD, beqL_refl a]
  | .tup a => by simp [beqD, beqL_refl a]
theorem beqL_refl : ∀ l : List D, beqL l l = true
  | [] => rfl
  | a :: l => by simp [beqL, beqD_refl a, beqL_refl l]
theorem beqLL_refl : ∀ l : List (List D), beqLL l l = true
  | [] => rfl
  | a :: l => by simp [beqLL, beqL_refl a, beqLL_refl l]
end
theorem beqP_refl : ∀ l : List (D × D), beqP l l = true
  | [] => rfl
  | (a, b) :: l => by simp [beqP, beqD_refl a, beqD_refl b, beqP_refl l]
theorem beqOb_refl (o : Ob) : beqOb o o = true := by
  cases o <;> simp [beqOb, beqLL_refl, beqP_refl]
theorem beqS_refl : ∀ l : List Ob, beqS l l = true
  | [] => rfl
  | a :: l => by simp [beqS, beqOb_refl a, beqS_refl l]
section
variable {call : Call} {ops : Array Oper} {a : List D} {S : List Ob} {Q : Post}
theorem wc_plan {n i : Nat} {l : List Oper} {p : Plan} {Q : PostX} (hp : planOf i l.toArray = some ([], p)) : WC (codeD Dm.E call n (.region i l.toArray true) a S) Q = WR (planD Dm.E call l.toArray [] S.length p a S) (Q .normal) := by
  have hc : codeD Dm.E call n (.region i l.toArray true) a S = match planD Dm.E call l.toArray [] S.length p a S with
    | some (a', S') => some (DX.normal, a', S')
    | none => none := by
    have hp' : Dm.E.plan i l.toArray = some ([], p) := hp
    simp only [codeD, hp', if_true, List.length_nil, List.replicate_zero, List.append_nil]
    rfl
  rw [hc]
  rcases planD Dm.E call l.toArray [] S.length p a S with _ | ⟨a', S'⟩
  · simp only [wc_none, wr_none]
  · simp only [wc_some, wr_some]
theorem wp_done {b : Nat} : WR (planD Dm.E call ops [] b .done a S) Q = Q a S := wr_some
theorem wp_steps {b : Nat} {p : Plan} : ∀ {l : List Nat} {ol : List Oper} {a : List D} {S : List Ob}, l.map (fun i => ops[i]?) = ol.map some → WR (planD Dm.E call ops [] b (steps l p) a S) Q = WR (runD Dm.E call true ops ol a S) fun a S => WR (planD Dm.E call ops [] b p a S) Q
  | [], [], a, S, _ => by simp only [steps, runD, wr_some]
  | [], o :: ol, a, S, h => by simp at h
  | i :: l, [], a, S, h => by simp at h
  | i :: l, o :: ol, a, S, h => by
    simp only [List.map_cons, List.cons.injEq] at h
    simp only [steps, planD, h.1, stepW, slotN, runD]
    rcases stepD Dm.E call true ops o a S with _ | ⟨a', S'⟩
    · simp only [wr_none]
    · exact wp_steps h.2
/-- The operations that a list names. -/
def opsOf (ops : Array Oper) (l : List Nat) : List Oper := l.filterMap fun i => ops[i]?
theorem wp_pick {b : Nat} {p : Plan} {l : List Nat} (h : l.all (fun i => decide (i < ops.size)) = true) : WR (planD Dm.E call ops [] b (steps l p) a S) Q = WR (runD Dm.E call true ops (opsOf ops l) a S) fun a S => WR (planD Dm.E call ops [] b p a S) Q := by
  refine wp_steps ?_
  induction l with
  | nil => rfl
  | cons i l ih =>
    simp only [List.all_cons, Bool.and_eq_true, decide_eq_true_eq] at h
    have hi : ops[i]? = some ops[i] := by simp [h.1]
    simp only [opsOf, List.filterMap_cons, hi, List.map_cons, List.cons.injEq, true_and]
    exact ih h.2
theorem wp_both {b : Nat} {p q : Plan} (a1 : List D) (S1 : List Ob) (hp : WR (planD Dm.E call ops [] b p a S) fun a' S' => a' = a1 ∧ S' = S1) (hq : WR (planD Dm.E call ops [] b q a S) fun a' S' => a' = a1 ∧ S' = S1) (h : Q a1 S1) :
    WR (planD Dm.E call ops [] b (.both p q) a S) Q := by
  obtain ⟨_, _, h1, rfl, rfl⟩ := hp
  obtain ⟨_, _, h2, rfl, rfl⟩ := hq
  refine ⟨_, _, ?_, h⟩
  simp only [planD, h1, h2, beqL_refl, beqS_refl, Bool.and_self, if_true]
end
theorem set_sort {α : Type} {l : List α} {i j : Nat} {x y : α} (h : j < i) : (l.set i x).set j y = (l.set j y).set i x := List.set_comm _ _ (Nat.ne_of_gt h)
end Go.Proofs.YtgomkmamgflbeaaDoor.Dm
