/-
  What plain data of a type are: words for structs, and for slices of them.
-/
import Derived.Test.YthkbiiammhekfaaGreatDoorWp
import Derived.Test.YthkbiiammhekfaaGreatDoorTv
import Derived.Test.YthkbiiammhekfaaGreatDoorTod
set_option linter.unusedSimpArgs false
set_option linter.unusedVariables false
namespace Go.Proofs.YthkbiiammhekfaaGreatDoor
open Go Dm Go.RowKit

/-- Cells that stand for what others stand for. -/
def CellR (e e' : List D) : Prop := e'.length = e.length ∧ ∀ (j : Nat) (c c' : D), e[j]? = some c → e'[j]? = some c' → c'.one = true ∧ ∀ W C u, VR W C c u → VR W C c' u
theorem nils_sl {W : World} {C : Cx} {v : Value} {sz : Nat} (h : VR W C .nils v) : VR W C (.sl sz [] true) v := by
  cases h
  exact .sl0 (fun _ => rfl)
theorem VR.sl_rel {W : World} {C : Cx} {sz : Nat} {es es' : List (List D)} {x : Bool} {v : Value} (h : VR W C (.sl sz es x) v) (hl : es'.length = es.length) (hr : ∀ (j : Nat) (e e' : List D), es[j]? = some e → es'[j]? = some e' → CellR e e') : VR W C (.sl sz es' x) v := by
  have at' : ∀ {j : Nat} {e' : List D}, es'[j]? = some e' → ∃ e, es[j]? = some e := fun {j e'} h => by
    have hj := (List.getElem?_eq_some_iff.1 h).1
    exact ⟨es[j]'(by omega), List.getElem?_eq_getElem (by omega)⟩
  have cell : ∀ {e e' : List D} {j : Nat} {c' : D}, CellR e e' → e'[j]? = some c' → ∃ c, e[j]? = some c := fun {e e' j c'} h k => by
    have hj := (List.getElem?_eq_some_iff.1 k).1
    exact ⟨e[j]'(by rw [← h.1]; exact hj), List.getElem?_eq_getElem (by rw [← h.1]; exact hj)⟩
  cases h with
  | sl vs hp hg hcap hx hs hc ho hv =>
    rw [← hl] at hp hcap hx hc ⊢
    refine .sl vs hp hg hcap hx (fun i e' he' => ?_) hc (fun i j e' c' he' hc' => ?_) (fun i j e' c' he' hc' => ?_)
    · obtain ⟨e, he⟩ := at' he'
      rw [(hr i e e' he he').1]; exact hs i e he
    · obtain ⟨e, he⟩ := at' he'
      obtain ⟨c, hc⟩ := cell (hr i e e' he he') hc'
      exact ((hr i e e' he he').2 j c c' hc hc').1
    · obtain ⟨e, he⟩ := at' he'
      obtain ⟨c, hc⟩ := cell (hr i e e' he he') hc'
      exact ((hr i e e' he he').2 j c c' hc hc').2 _ _ _ (hv i j e c he hc)
  | sl0 hx =>
    have : es' = [] := List.eq_nil_of_length_eq_zero (by simpa using hl)
    subst this
    exact .sl0 hx
theorem CellR.refl {c : List D} (h : ∀ d ∈ c, d.one = true) : CellR c c := ⟨rfl, fun j x y hx hy => by
  rw [hx] at hy
  cases hy
  exact ⟨h _ (List.mem_of_getElem? hx), fun _ _ _ h => h⟩⟩
end Go.Proofs.YthkbiiammhekfaaGreatDoor
