/-
  Lists of single cells that grow and shrink at their end, in a row that may be longer; calls that look at the caller's store alone.
-/
import Derived.Test.YtlamgjbngblefaaDoorGl
import Derived.Test.YtlamgjbngblefaaDoorWpl
namespace Go.Proofs.YtlamgjbngblefaaDoor.Dm
open Go Gw
set_option linter.unusedSimpArgs false

/-- The object that a slice may write. -/
def own : D → Option Nat
  | .os k _ _ _ => some k
  | _ => none
section
variable {α : Type} {val : α → D} {S T : List Ob} {d : D} {l : List α}
/-- A list in a row that may be longer. -/
def PL (val : α → D) (S : List Ob) (d : D) (l : List α) : Prop :=
  (d = .nils ∧ l = []) ∨ d = .sl 1 (l.map fun a => [val a]) true ∨ ∃ k es, d = .os k 0 l.length false ∧ S[k]? = some (.row 1 es) ∧ es.take l.length = l.map (fun a => [val a]) ∧ l.length ≤ es.length
theorem PL.keep (h : PL val S d l) (g : ∀ k o, own d = some k → S[k]? = some o → T[k]? = some o) : PL val T d l := by
  rcases h with h | h | ⟨k, es, h1, h2, h3, h4⟩
  · exact .inl h
  · exact .inr (.inl h)
  · exact .inr (.inr ⟨k, es, h1, g k _ (by rw [h1]; rfl) h2, h3, h4⟩)
theorem PL.lt (h : PL val S d l) {k : Nat} (hk : own d = some k) : k < S.length := by
  rcases h with ⟨rfl, -⟩ | rfl | ⟨k', es, rfl, h2, -, -⟩
  · cases hk
  · cases hk
  · cases hk; exact (List.getElem?_eq_some_iff.1 h2).1
theorem PL.os {k n : Nat} (h : PL val S (.os k 0 n false) l) : n = l.length ∧ ∃ es, S[k]? = some (.row 1 es) ∧ es.take l.length = l.map (fun a => [val a]) ∧ l.length ≤ es.length := by
  rcases h with ⟨h, -⟩ | h | ⟨k', es, h1, h2, h3, h4⟩
  · cases h
  · cases h
  · cases h1; exact ⟨rfl, es, h2, h3, h4⟩
theorem take_pre {es : List (List D)} {n m : Nat} (h : es.take n = l.map (fun a => [val a])) (hm : m ≤ n) : es.take m = (l.take m).map (fun a => [val a]) := by
  rw [List.map_take, ← h, List.take_take, Nat.min_eq_left hm]
/-- The list is shortened. -/
theorem PL.cut {k n m : Nat} (h : PL val S (.os k 0 n false) l) (hm : m ≤ n) : PL val S (.os k 0 m false) (l.take m) := by
  obtain ⟨rfl, es, h2, h3, h4⟩ := h.os
  have hl : (l.take m).length = m := by rw [List.length_take]; omega
  exact .inr (.inr ⟨k, es, by rw [hl], h2, by rw [hl]; exact take_pre h3 hm, by rw [hl]; omega⟩)
end

theorem keptS_app : ∀ (S J : List Ob), keptS S (S ++ J) = true
  | [], J => rfl
  | a :: S, J => by simp [keptS, beqOb_refl, keptS_app S J]
theorem keptS_refl (S : List Ob) : keptS S S = true := by
  have := keptS_app S []
  rwa [List.append_nil] at this
section
variable {call : Call} {st : Bool} {S : List Ob} {f : FuncId} {args : List D} {d d' : D} {T : List Ob}
theorem callD_obs (hm : E.mode f = .obs) (hp : pureL args = false) (h : call f args S = some (d, S)) (hd : d.pure = true) : callD E call st S f args = some (d, S) := by
  unfold callD
  rw [hm]
  dsimp only
  rw [if_neg (by rw [hp]; simp), h]
  dsimp only
  rw [hd, keptS_refl]; rfl
theorem callD_obsJ {J : List Ob} (hm : E.mode f = .obs) (hp : pureL args = false) (h : call f args S = some (d, S ++ J)) (hd : d.pure = true) : callD E call st S f args = some (d, S) := by
  unfold callD
  rw [hm]
  dsimp only
  rw [if_neg (by rw [hp]; simp), h]
  dsimp only
  rw [hd, keptS_app]; rfl
theorem callD_ext {J : List Ob} (hm : E.mode f = .ext) (h : call f args S = some (d, S ++ J)) : callD E call st S f args = some (d, S ++ J) := by
  unfold callD
  rw [hm]
  dsimp only
  rw [h]
  dsimp only
  rw [keptS_app]; rfl
end
end Go.Proofs.YtlamgjbngblefaaDoor.Dm
