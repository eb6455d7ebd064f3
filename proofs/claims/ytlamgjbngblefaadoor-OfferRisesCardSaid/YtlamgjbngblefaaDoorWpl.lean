/-
  Regions that are run by a plan, by weakest preconditions: every order has the same end.
-/
import Derived.Test.YtlamgjbngblefaaDoorWq
import Derived.Test.YtlamgjbngblefaaDoorMono
namespace Go.Proofs.YtlamgjbngblefaaDoor.Dm
open Go

mutual
theorem beqD_refl : ∀ d : D, beqD d d = true
  | .undef => rfl
  | .bool a => by simp [beqD]
  | .int k a => by simp [beqD]
  | .str a => by simp [beqD]
  | .nilp => rfl
  | .ref a o => by simp [beqD, beqL_refl a]
  | .loc k i o => by simp [beqD]
  | .nils => rfl
  | .sl z a x => by simp [beqD, beqLL_refl a]
  | .os k i n x => by simp [beqD]
  | .osc k i n c => by simp [beqD]
  | .itE k => by simp [beqD]
  | .nilm => rfl
  | .it0 => rfl
  | .map k => by simp [beqD]
  | .nilf => rfl
  | .func f a b => by simp [beqD, beqL_refl a, beqL_refl b]
  | .nili => rfl
  | .iface t a => by simp [beqD, beqD_refl a]
  | .agg a => by simp [beqD, beqL_refl a]
  | .tup a => by simp [beqD, beqL_refl a]
theorem beqL_refl : ∀ l : List D, beqL l l = true
  | [] => rfl
  | a :: l => by simp [beqL, beqD_refl a, beqL_refl l]
theorem beqLL_refl : ∀ l : List (List D), beqLL l l = true
  | [] => rfl
  | a :: l => by simp [beqLL, beqL_refl a, beqLL_refl l]
end
theorem beqP_refl : ∀ l : List (D × D), beqP l l = true
  | [] => rfl
  | (a, b) :: l => by simp [beqP, beqD_refl a, beqD_refl b, beqP_refl l]
theorem beqOb_refl (o : Ob) : beqOb o o = true := by
  cases o <;> simp [beqOb, beqLL_refl, beqP_refl]
section
variable {call : Call} {ops : Array Oper} {a : List D} {S : List Ob} {Q : Post}
/-- The operations that a list names. -/
def opsOf (ops : Array Oper) (l : List Nat) : List Oper := l.filterMap fun i => ops[i]?
end
end Go.Proofs.YtlamgjbngblefaaDoor.Dm
