/-
  More words for runs of the machine.
  A sequence, cut behind its first part.
-/
import Derived.Test.YtlamgjbngblefaaDoorWp
namespace Go.Proofs.YtlamgjbngblefaaDoor.Dm
open Go
theorem le_max {n : Nat} (h : n ≤ 1000000000) : (n ≤ maxLen) = True := by
  simp only [maxLen, eq_iff_iff, iff_true]; omega
def evParts (ev : Operand → D) : List (Nat × Operand) → List (Nat × D)
  | [] => []
  | (i, x) :: l => (i, ev x) :: evParts ev l
theorem evParts_map {ev : Operand → D} : ∀ l : List (Nat × Operand), (l.map fun p => (p.1, ev p.2)) = evParts ev l
  | [] => rfl
  | (i, x) :: l => by rw [List.map_cons, evParts_map l]; rfl
theorem wo_build {E : Env} {call : Call} {dr : Bool} {ev : Operand → D} {S : List Ob} {t : TypeId} {l : List (Nat × Operand)} {Q : D → List Ob → Prop} :
    WO (dOp E call dr ev S (.build t l.toArray)) Q = WO ((dBuild E.P t (evParts ev l)).map (·, S)) Q := by
  rw [← evParts_map]; rfl
theorem wo_buildSlice {E : Env} {call : Call} {dr : Bool} {ev : Operand → D} {S : List Ob} {t : TypeId} {n : Nat} {l : List (Nat × Operand)} {Q : D → List Ob → Prop} :
    WO (dOp E call dr ev S (.buildSlice t n l.toArray)) Q = WO ((dBuildSlice E.P t n (evParts ev l)).map (·, S)) Q := by
  rw [← evParts_map]; rfl
end Go.Proofs.YtlamgjbngblefaaDoor.Dm
