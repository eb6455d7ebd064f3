/-
  Lists of any plain elements that grow, wherever they lie.
  Lists of single cells that grow and shrink at their end, in a row that may be longer; calls that look at the caller's store alone.
-/
import Derived.Test.YthkbiiammhekfaaGreatDoorGw
import Derived.Test.YthkbiiammhekfaaGreatDoorWq
set_option linter.unusedSimpArgs false
set_option linter.unusedVariables false
namespace Go.Proofs.YthkbiiammhekfaaGreatDoor.Dm
open Go Gw
set_option linter.unusedSimpArgs false

/-- A list that grows. -/
def GL {α : Type} (sz : Nat) (enc : α → List D) (S : List Ob) (d : D) (l : List α) : Prop :=
  (d = .nils ∧ l = []) ∨ ∃ k, d = .os k 0 l.length false ∧ S[k]? = some (.row sz (l.map enc))
/-- A list that a call has handed back. -/
def FLs {α : Type} (sz : Nat) (enc : α → List D) (d : D) (l : List α) : Prop := (d = .nils ∧ l = []) ∨ ∃ x, d = .sl sz (l.map enc) x
section
variable {α : Type} {sz : Nat} {enc : α → List D} {S T : List Ob} {d : D} {l : List α}
theorem GL.nil : GL sz enc S .nils ([] : List α) := .inl ⟨rfl, rfl⟩
theorem GL.push (h : GL sz enc S d l) (o : Ob) : GL sz enc (S ++ [o]) d l := by
  rcases h with ⟨h1, h2⟩ | ⟨k, h1, h2⟩
  · exact .inl ⟨h1, h2⟩
  · exact .inr ⟨k, h1, get_old h2⟩
theorem GL.ext (h : GL sz enc S d l) (g : ExtS S T) : GL sz enc T d l := by
  rcases h with ⟨h1, h2⟩ | ⟨k, h1, h2⟩
  · exact .inl ⟨h1, h2⟩
  · exact .inr ⟨k, h1, g k _ h2⟩
theorem GL.fls (h : GL sz enc S d l) (hp : pureLL (l.map enc) = true) : ∃ d', freeze S 40 d = some d' ∧ FLs sz enc d' l := by
  rcases h with ⟨rfl, rfl⟩ | ⟨k, rfl, hk⟩
  · exact ⟨_, rfl, .inl ⟨rfl, rfl⟩⟩
  · have := freeze_os (n := 38) (x := false) hk hp
    rw [List.length_map] at this
    exact ⟨_, this, .inr ⟨_, rfl⟩⟩
theorem FLs.pure (h : FLs sz enc d l) (hp : pureLL (l.map enc) = true) : d.pure = true := by
  rcases h with ⟨rfl, -⟩ | ⟨x, rfl⟩
  · rfl
  · exact hp
set_option maxHeartbeats 400000 in
/-- An append of one element. -/
theorem app_glB {t e : TypeId} {z : D} {n : Nat} (h1 : elemT Tryz.prog t = some e) (h2 : sizeT Tryz.prog e = some (n + 1)) (h3 : zeroT Tryz.prog e = some z) (h4 : z.cells.length = n + 1) (hb : (l.length + 1) * bytesT Tryz.prog e ≤ 140737488355328) (hm0 : l.length + 1 ≤ maxLen) (h : GL (n + 1) enc S d l) (x : α) :
    ∃ S', dAppend Tryz.prog S t t d (.sl (n + 1) [enc x] true) = some (.os S.length 0 (l.length + 1) false, S') ∧ GL (n + 1) enc S' (.os S.length 0 (l.length + 1) false) (l ++ [x]) ∧ S'.length = S.length + 1 ∧ (∀ k o, (∀ n, d = .os k 0 n false → False) → S[k]? = some o → S'[k]? = some o) ∧ (∀ (k sz : Nat) (es : List (List D)), sz ≠ n + 1 → S[k]? = some (.row sz es) → S'[k]? = some (.row sz es)) := by
  have hm : (l.length + 1 ≤ maxLen) = True := eq_true hm0
  rcases h with ⟨rfl, rfl⟩ | ⟨k, rfl, hk⟩
  · refine ⟨S ++ [.row (n + 1) [enc x]], ?_, .inr ⟨_, rfl, get_end⟩, by simp, fun k o _ h => get_old h, fun k sz es _ h => get_old h⟩
    rw [List.length_nil, Nat.zero_add, Nat.one_mul] at hb
    simp only [List.length_nil, Nat.zero_add] at hm
    simp only [dAppend, h1, h2, h3, h4, srcOf, List.length_cons, List.length_nil, Nat.zero_add, Nat.one_mul, hm, hb, and_self, Nat.succ_ne_zero, ↓reduceIte]
  · have hel : (l.map enc).length = l.length := by simp
    refine ⟨S.set k .dead ++ [.row (n + 1) (l.map enc ++ [enc x])], ?_, ?_, by simp, fun k' o hd h => ?_, fun k' sz es hz h => ?_⟩
    · have ht : (l.map enc).take l.length = l.map enc := by rw [← hel, List.take_length]
      generalize l.map enc = es at *
      simp only [dAppend, h1, h2, h3, h4, srcOf, hk, hel, Nat.zero_add, Nat.le_refl, and_self, List.drop_zero, ht, List.length_cons, List.length_nil, hm, hb, Nat.succ_ne_zero, ↓reduceIte]
    · refine .inr ⟨_, by rw [List.length_append]; rfl, ?_⟩
      rw [List.map_append]; exact get_end'
    · have hne : k ≠ k' := fun e => by subst e; exact hd _ rfl
      exact get_old (by rw [List.getElem?_set_ne hne]; exact h)
    · have hne : k ≠ k' := fun e => by
        subst e
        rw [hk] at h
        injection h with h
        injection h with h _
        exact hz h.symm
      exact get_old (by rw [List.getElem?_set_ne hne]; exact h)
theorem app_gl {t e : TypeId} {z : D} {n : Nat} (h1 : elemT Tryz.prog t = some e) (h2 : sizeT Tryz.prog e = some (n + 1)) (h3 : zeroT Tryz.prog e = some z) (h4 : z.cells.length = n + 1) (h5 : bytesT Tryz.prog e ≤ 100000) (h : GL (n + 1) enc S d l) (hl : l.length ≤ 100000) (x : α) :
    ∃ S', dAppend Tryz.prog S t t d (.sl (n + 1) [enc x] true) = some (.os S.length 0 (l.length + 1) false, S') ∧ GL (n + 1) enc S' (.os S.length 0 (l.length + 1) false) (l ++ [x]) ∧ S'.length = S.length + 1 ∧ (∀ k o, (∀ n, d = .os k 0 n false → False) → S[k]? = some o → S'[k]? = some o) ∧ (∀ (k sz : Nat) (es : List (List D)), sz ≠ n + 1 → S[k]? = some (.row sz es) → S'[k]? = some (.row sz es)) :=
  app_glB h1 h2 h3 h4 (Nat.le_trans (Nat.mul_le_mul (Nat.succ_le_succ hl) h5) (by decide)) (by unfold maxLen; omega) h x
end
set_option linter.unusedSimpArgs false

/-- The object that a slice may write. -/
def own : D → Option Nat
  | .os k _ _ _ => some k
  | _ => none
section
variable {α : Type} {val : α → D} {S T : List Ob} {d : D} {l : List α}
/-- A list in a row that may be longer. -/
def PL (val : α → D) (S : List Ob) (d : D) (l : List α) : Prop :=
  (d = .nils ∧ l = []) ∨ d = .sl 1 (l.map fun a => [val a]) true ∨ ∃ k es, d = .os k 0 l.length false ∧ S[k]? = some (.row 1 es) ∧ es.take l.length = l.map (fun a => [val a]) ∧ l.length ≤ es.length
theorem PL.keep (h : PL val S d l) (g : ∀ k o, own d = some k → S[k]? = some o → T[k]? = some o) : PL val T d l := by
  rcases h with h | h | ⟨k, es, h1, h2, h3, h4⟩
  · exact .inl h
  · exact .inr (.inl h)
  · exact .inr (.inr ⟨k, es, h1, g k _ (by rw [h1]; rfl) h2, h3, h4⟩)
theorem PL.lt (h : PL val S d l) {k : Nat} (hk : own d = some k) : k < S.length := by
  rcases h with ⟨rfl, -⟩ | rfl | ⟨k', es, rfl, h2, -, -⟩
  · cases hk
  · cases hk
  · cases hk; exact (List.getElem?_eq_some_iff.1 h2).1
theorem PL.os {k n : Nat} (h : PL val S (.os k 0 n false) l) : n = l.length ∧ ∃ es, S[k]? = some (.row 1 es) ∧ es.take l.length = l.map (fun a => [val a]) ∧ l.length ≤ es.length := by
  rcases h with ⟨h, -⟩ | h | ⟨k', es, h1, h2, h3, h4⟩
  · cases h
  · cases h
  · cases h1; exact ⟨rfl, es, h2, h3, h4⟩
theorem take_pre {es : List (List D)} {n m : Nat} (h : es.take n = l.map (fun a => [val a])) (hm : m ≤ n) : es.take m = (l.take m).map (fun a => [val a]) := by
  rw [List.map_take, ← h, List.take_take, Nat.min_eq_left hm]
/-- The list is shortened. -/
theorem PL.cut {k n m : Nat} (h : PL val S (.os k 0 n false) l) (hm : m ≤ n) : PL val S (.os k 0 m false) (l.take m) := by
  obtain ⟨rfl, es, h2, h3, h4⟩ := h.os
  have hl : (l.take m).length = m := by rw [List.length_take]; omega
  exact .inr (.inr ⟨k, es, by rw [hl], h2, by rw [hl]; exact take_pre h3 hm, by rw [hl]; omega⟩)
end

theorem keptS_app : ∀ (S J : List Ob), keptS S (S ++ J) = true
  | [], J => rfl
  | a :: S, J => by simp [keptS, beqOb_refl, keptS_app S J]
section
variable {call : Call} {st : Bool} {S : List Ob} {f : FuncId} {args : List D} {d d' : D} {T : List Ob}
theorem callD_obsJ {J : List Ob} (hm : E.mode f = .obs) (hp : pureL args = false) (h : call f args S = some (d, S ++ J)) (hd : d.pure = true) : callD E call st S f args = some (d, S) := by
  unfold callD
  rw [hm]
  dsimp only
  rw [if_neg (by rw [hp]; simp), h]
  dsimp only
  rw [hd, keptS_app]; rfl
theorem callD_ext {J : List Ob} (hm : E.mode f = .ext) (h : call f args S = some (d, S ++ J)) : callD E call st S f args = some (d, S ++ J) := by
  unfold callD
  rw [hm]
  dsimp only
  rw [h]
  dsimp only
  rw [keptS_app]; rfl
end
end Go.Proofs.YthkbiiammhekfaaGreatDoor.Dm
