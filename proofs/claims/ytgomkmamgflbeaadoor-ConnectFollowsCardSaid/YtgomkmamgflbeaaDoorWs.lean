/-
  A sequence, cut behind its first part.
-/
import Derived.Test.YtgomkmamgflbeaaDoorWq
namespace Go.Proofs.YtgomkmamgflbeaaDoor.Dm
open Go
theorem wc_scut {E : Env} {call : Call} {n : Nat} {x y : Code} {a : List D} {S : List Ob} {Q : PostX} (P : List D → List Ob → Prop) (h : WC (codeD E call n x a S) fun r a S => r = .normal ∧ P a S) (k : ∀ a S, P a S → WC (codeD E call n y a S) Q) :
    WC (codeD E call n (.seq x y) a S) Q := by
  rw [wc_seq]
  refine wc_mono h ?_
  rintro r a S ⟨rfl, hp⟩
  exact k a S hp
end Go.Proofs.YtgomkmamgflbeaaDoor.Dm
