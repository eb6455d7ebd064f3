/-
  The machine at Records and at its reference: the same violations.
-/
import Derived.Test.YteffefjkcappbaaDoorAuF
import Derived.Test.YteffefjkcappbaaDoorWq
namespace Go.Proofs.YteffefjkcappbaaDoor.Dm
open Go
set_option linter.unusedSimpArgs false

def strOf : Option (D × List Ob) → Option ByteArray
  | some (.str s, _) => some s
  | _ => none
noncomputable def decS (n : Nat) : ByteArray := (strOf (dcall E 998 71 [.int .i64 n] [])).getD ⟨#[]⟩
def sameS (a b : Option ByteArray) : Bool :=
  match a, b with
  | some x, some y => decide (x = y)
  | _, _ => false
theorem sameS_spec {a b : Option ByteArray} (h : sameS a b = true) : ∃ s, a = some s ∧ b = some s := by
  unfold sameS at h
  split at h
  · simp only [decide_eq_true_eq] at h; subst h; exact ⟨_, rfl, rfl⟩
  · cases h
theorem strOf_spec {o : Option (D × List Ob)} {s : ByteArray} (h : strOf o = some s) : ∃ T, o = some (.str s, T) := by
  unfold strOf at h
  split at h
  · cases h; exact ⟨_, rfl⟩
  · cases h
def cmdS : ByteArray := ByteArray.mk #[99, 111, 109, 109, 97, 110, 100, 115]
noncomputable def recF (rs : List Rec) (c : Int) : List (Int × ByteArray) :=
  (if (verR 0 0 rs).2 = 0 then [] else [(37, decS (verR 0 0 rs).1.toNat)]) ++ if c < 0 ∨ (rs.length : Int) < c then [(36, cmdS)] else []
theorem get_end' {α : Type} {l : List α} {i : Nat} {x y : α} : (l.set i y ++ [x])[l.length]? = some x := by
  have : (l.set i y).length = l.length := by simp
  rw [← this]; exact get_end
theorem callD_own {call : Call} {S : List Ob} {f : FuncId} {args : List D} (hm : E.mode f = .pure) (hp : pureL args = false) : callD E call false S f args = call f args S := by
  unfold callD
  rw [hm]
  dsimp only
  rw [if_neg (by rw [hp]; simp), if_neg (by simp)]
end Go.Proofs.YteffefjkcappbaaDoor.Dm
