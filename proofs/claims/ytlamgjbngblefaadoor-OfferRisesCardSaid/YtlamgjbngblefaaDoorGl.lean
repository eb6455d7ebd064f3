/-
  Lists of any plain elements that grow, wherever they lie.
-/
import Derived.Test.YtlamgjbngblefaaDoorGw
import Derived.Test.YtlamgjbngblefaaDoorWq
namespace Go.Proofs.YtlamgjbngblefaaDoor.Dm
open Go Gw
set_option linter.unusedSimpArgs false

/-- A list that grows. -/
def GL {α : Type} (sz : Nat) (enc : α → List D) (S : List Ob) (d : D) (l : List α) : Prop :=
  (d = .nils ∧ l = []) ∨ ∃ k, d = .os k 0 l.length false ∧ S[k]? = some (.row sz (l.map enc))
/-- A list that a call has handed back. -/
def FLs {α : Type} (sz : Nat) (enc : α → List D) (d : D) (l : List α) : Prop := (d = .nils ∧ l = []) ∨ ∃ x, d = .sl sz (l.map enc) x
section
variable {α : Type} {sz : Nat} {enc : α → List D} {S T : List Ob} {d : D} {l : List α}
theorem GL.nil : GL sz enc S .nils ([] : List α) := .inl ⟨rfl, rfl⟩
theorem GL.push (h : GL sz enc S d l) (o : Ob) : GL sz enc (S ++ [o]) d l := by
  rcases h with ⟨h1, h2⟩ | ⟨k, h1, h2⟩
  · exact .inl ⟨h1, h2⟩
  · exact .inr ⟨k, h1, get_old h2⟩
theorem GL.ext (h : GL sz enc S d l) (g : ExtS S T) : GL sz enc T d l := by
  rcases h with ⟨h1, h2⟩ | ⟨k, h1, h2⟩
  · exact .inl ⟨h1, h2⟩
  · exact .inr ⟨k, h1, g k _ h2⟩
theorem GL.fls (h : GL sz enc S d l) (hp : pureLL (l.map enc) = true) : ∃ d', freeze S 40 d = some d' ∧ FLs sz enc d' l := by
  rcases h with ⟨rfl, rfl⟩ | ⟨k, rfl, hk⟩
  · exact ⟨_, rfl, .inl ⟨rfl, rfl⟩⟩
  · have := freeze_os (n := 38) (x := false) hk hp
    rw [List.length_map] at this
    exact ⟨_, this, .inr ⟨_, rfl⟩⟩
theorem FLs.pure (h : FLs sz enc d l) (hp : pureLL (l.map enc) = true) : d.pure = true := by
  rcases h with ⟨rfl, -⟩ | ⟨x, rfl⟩
  · rfl
  · exact hp
set_option maxHeartbeats 400000 in
/-- An append of one element. -/
theorem app_gl {t e : TypeId} {z : D} {n : Nat} (h1 : elemT Tryd.prog t = some e) (h2 : sizeT Tryd.prog e = some (n + 1)) (h3 : zeroT Tryd.prog e = some z) (h4 : z.cells.length = n + 1) (h5 : bytesT Tryd.prog e ≤ 100000) (h : GL (n + 1) enc S d l) (hl : l.length ≤ 100000) (x : α) :
    ∃ S', dAppend Tryd.prog S t t d (.sl (n + 1) [enc x] true) = some (.os S.length 0 (l.length + 1) false, S') ∧ GL (n + 1) enc S' (.os S.length 0 (l.length + 1) false) (l ++ [x]) ∧ S'.length = S.length + 1 ∧ (∀ k o, (∀ n, d = .os k 0 n false → False) → S[k]? = some o → S'[k]? = some o) ∧ (∀ (k sz : Nat) (es : List (List D)), sz ≠ n + 1 → S[k]? = some (.row sz es) → S'[k]? = some (.row sz es)) := by
  have hb : (l.length + 1) * bytesT Tryd.prog e ≤ 140737488355328 := Nat.le_trans (Nat.mul_le_mul (Nat.succ_le_succ hl) h5) (by decide)
  have hm : (l.length + 1 ≤ maxLen) = True := le_max (by omega)
  rcases h with ⟨rfl, rfl⟩ | ⟨k, rfl, hk⟩
  · refine ⟨S ++ [.row (n + 1) [enc x]], ?_, .inr ⟨_, rfl, get_end⟩, by simp, fun k o _ h => get_old h, fun k sz es _ h => get_old h⟩
    rw [List.length_nil, Nat.zero_add, Nat.one_mul] at hb
    simp only [List.length_nil, Nat.zero_add] at hm
    simp only [dAppend, if_true, h1, h2, h3, h4, srcOf, List.length_cons, List.length_nil, Nat.zero_add, Nat.one_mul, hm, hb, and_self, Nat.succ_ne_zero, if_false, ↓reduceIte]
  · have hel : (l.map enc).length = l.length := by simp
    refine ⟨S.set k .dead ++ [.row (n + 1) (l.map enc ++ [enc x])], ?_, ?_, by simp, fun k' o hd h => ?_, fun k' sz es hz h => ?_⟩
    · have ht : (l.map enc).take l.length = l.map enc := by rw [← hel, List.take_length]
      generalize l.map enc = es at *
      simp only [dAppend, if_true, h1, h2, h3, h4, srcOf, hk, hel, Nat.zero_add, Nat.le_refl, and_self, List.drop_zero, ht, List.length_cons, List.length_nil, hm, hb, Nat.succ_ne_zero, if_false, ↓reduceIte]
    · refine .inr ⟨_, by rw [List.length_append]; rfl, ?_⟩
      rw [List.map_append]; exact get_end'
    · have hne : k ≠ k' := fun e => by subst e; exact hd _ rfl
      exact get_old (by rw [List.getElem?_set_ne hne]; exact h)
    · have hne : k ≠ k' := fun e => by
        subst e
        rw [hk] at h
        injection h with h
        injection h with h _
        exact hz h.symm
      exact get_old (by rw [List.getElem?_set_ne hne]; exact h)
end
end Go.Proofs.YtlamgjbngblefaaDoor.Dm
