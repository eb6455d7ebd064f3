/-
  Words for stores that grow, for lists of violations, for loops of a few rounds, and for results that are texts.
  Lists of any plain elements that grow, wherever they lie.
  Lists of single cells that grow and shrink at their end, in a row that may be longer; calls that look at the caller's store alone.
-/
import Derived.Test.YtajhgnefcddenaaDoorWq
namespace Go.Proofs.YtajhgnefcddenaaDoor.Dm.Gw
open Go
set_option linter.unusedSimpArgs false

/-! A loop of a few rounds, round by round. -/
def WLn (E : Env) (call : Call) (n : Nat) (c : Code) (m : Nat) (a : List D) (S : List Ob) (Q : PostX) : Prop := WC (loopD (codeD E call n c) m a S) Q
def loopQ (E : Env) (call : Call) (n : Nat) (c : Code) (m : Nat) (Q : PostX) : PostX
  | .normal, a, S => WLn E call n c m a S Q
  | x, a, S => Q x a S
/-! Lists and stores. -/
theorem set_end {α : Type} {l : List α} {x y : α} : (l ++ [x]).set l.length y = l ++ [y] := by simp
theorem get_end {α : Type} {l : List α} {x : α} : (l ++ [x])[l.length]? = some x := by simp
theorem get_end' {α : Type} {l : List α} {i : Nat} {x y : α} : (l.set i y ++ [x])[l.length]? = some x := by
  have : (l.set i y).length = l.length := by simp
  rw [← this]; exact get_end
theorem get_old {S J : List Ob} {k : Nat} {o : Ob} (h : S[k]? = some o) : (S ++ J)[k]? = some o := by
  rw [List.getElem?_append_left ((List.getElem?_eq_some_iff.1 h).1)]; exact h
theorem drop_at {α : Type} {l : List α} {i : Nat} {x : α} (h : l[i]? = some x) : l.drop i = x :: l.drop (i + 1) := by
  obtain ⟨hl, hx⟩ := List.getElem?_eq_some_iff.1 h
  rw [← hx]
  exact List.drop_eq_getElem_cons hl
theorem callD_own {call : Call} {S : List Ob} {f : FuncId} {args : List D} (hm : E.mode f = .pure) (hp : pureL args = false) : callD E call false S f args = call f args S := by
  unfold callD
  rw [hm]
  dsimp only
  rw [if_neg (by rw [hp]; simp), if_neg (by simp)]
/-- All that lay there lies there still. -/
def ExtS (S T : List Ob) : Prop := ∀ (k : Nat) (x : Ob), S[k]? = some x → T[k]? = some x
theorem ExtS.push {S T : List Ob} (h : ExtS S T) (x : Ob) : ExtS S (T ++ [x]) := fun k y hy => get_old (h k y hy)
theorem ExtS.refl {S : List Ob} : ExtS S S := fun _ _ h => h
theorem ExtS.trans {S T U : List Ob} (h : ExtS S T) (g : ExtS T U) : ExtS S U := fun k y hy => g k y (h k y hy)

/-! Results that are texts. -/
def strOf : Option (D × List Ob) → Option ByteArray
  | some (.str s, _) => some s
  | _ => none
def sameS (a b : Option ByteArray) : Bool :=
  match a, b with
  | some x, some y => decide (x = y)
  | _, _ => false
theorem sameS_spec {a b : Option ByteArray} (h : sameS a b = true) : ∃ s, a = some s ∧ b = some s := by
  unfold sameS at h
  split at h
  · simp only [decide_eq_true_eq] at h; subst h; exact ⟨_, rfl, rfl⟩
  · cases h
theorem strOf_spec {o : Option (D × List Ob)} {s : ByteArray} (h : strOf o = some s) : ∃ T, o = some (.str s, T) := by
  unfold strOf at h
  split at h
  · cases h; exact ⟨_, rfl⟩
  · cases h
theorem bytes_refl (s : ByteArray) : (s == s) = true := by
  obtain ⟨d⟩ := s
  show (d == d) = true
  simp

/-! Lists of violations. -/
def encF (f : Int × ByteArray) : List D := [.int .i64 f.1, .str f.2]
/-- A slice of violations, wherever it lies. -/
def FV (S : List Ob) (d : D) (fs : List (Int × ByteArray)) : Prop :=
  (d = .nils ∧ fs = []) ∨ (∃ x, d = .sl 2 (fs.map encF) x) ∨ ∃ k, d = .os k 0 fs.length false ∧ S[k]? = some (.row 2 (fs.map encF))
theorem encF_pure (fs : List (Int × ByteArray)) : pureLL (fs.map encF) = true := by
  induction fs with
  | nil => rfl
  | cons f fs ih => rw [List.map_cons, pureLL_cons, ih]; rfl
theorem FV.frozen {T S : List Ob} {d : D} {fs : List (Int × ByteArray)} (h : FV T d fs) : ∃ d', freeze T 40 d = some d' ∧ FV S d' fs := by
  rcases h with ⟨rfl, rfl⟩ | ⟨x, rfl⟩ | ⟨k, rfl, hk⟩
  · exact ⟨_, rfl, .inl ⟨rfl, rfl⟩⟩
  · exact ⟨_, freeze_pure (encF_pure fs), .inr (.inl ⟨x, rfl⟩)⟩
  · have := freeze_os (n := 38) (x := false) hk (encF_pure fs)
    rw [List.length_map] at this
    exact ⟨_, this, .inr (.inl ⟨_, rfl⟩)⟩
/-- A list of violations that grows. -/
def GV (S : List Ob) (d : D) (fs : List (Int × ByteArray)) : Prop :=
  (d = .nils ∧ fs = []) ∨ ∃ k, d = .os k 0 fs.length false ∧ S[k]? = some (.row 2 (fs.map encF))
theorem GV.push {S : List Ob} {d : D} {fs : List (Int × ByteArray)} (h : GV S d fs) (o : Ob) : GV (S ++ [o]) d fs := by
  rcases h with ⟨h1, h2⟩ | ⟨k, h1, h2⟩
  · exact .inl ⟨h1, h2⟩
  · exact .inr ⟨k, h1, get_old h2⟩
theorem GV.ext {S T : List Ob} {d : D} {fs : List (Int × ByteArray)} (h : GV S d fs) (g : ExtS S T) : GV T d fs := by
  rcases h with ⟨h1, h2⟩ | ⟨k, h1, h2⟩
  · exact .inl ⟨h1, h2⟩
  · exact .inr ⟨k, h1, g k _ h2⟩
/-- Rows that are not violations stay where they are. -/
def KeepR (S T : List Ob) : Prop := ∀ (k sz : Nat) (es : List (List D)), sz ≠ 2 → S[k]? = some (.row sz es) → T[k]? = some (.row sz es)
def ifF (b : Bool) (e : Int) (s : ByteArray) : List (Int × ByteArray) := if b = true then [(e, s)] else []
/-- The first place where something holds, or -1. -/
def fdx {α : Type} (p : α → Bool) : Nat → List α → Int
  | _, [] => -1
  | i, x :: l => if p x = true then (i : Int) else fdx p (i + 1) l
theorem fdx_any {α : Type} (p : α → Bool) : ∀ (l : List α) (i : Nat), decide (0 ≤ fdx p i l) = l.any p
  | [], i => rfl
  | x :: l, i => by
    unfold fdx
    rw [List.any_cons, ← fdx_any p l (i + 1)]
    cases h : p x
    · rw [if_neg (by simp), Bool.false_or]
    · rw [if_pos rfl, Bool.true_or]; exact decide_eq_true (by omega)
end Go.Proofs.YtajhgnefcddenaaDoor.Dm.Gw
namespace Go.Proofs.YtajhgnefcddenaaDoor.Dm
open Go Gw
set_option linter.unusedSimpArgs false

/-- A list that grows. -/
def GL {α : Type} (sz : Nat) (enc : α → List D) (S : List Ob) (d : D) (l : List α) : Prop :=
  (d = .nils ∧ l = []) ∨ ∃ k, d = .os k 0 l.length false ∧ S[k]? = some (.row sz (l.map enc))
/-- A list that a call has handed back. -/
def FLs {α : Type} (sz : Nat) (enc : α → List D) (d : D) (l : List α) : Prop := (d = .nils ∧ l = []) ∨ ∃ x, d = .sl sz (l.map enc) x
section
variable {α : Type} {sz : Nat} {enc : α → List D} {S T : List Ob} {d : D} {l : List α}
theorem GL.nil : GL sz enc S .nils ([] : List α) := .inl ⟨rfl, rfl⟩
theorem GL.push (h : GL sz enc S d l) (o : Ob) : GL sz enc (S ++ [o]) d l := by
  rcases h with ⟨h1, h2⟩ | ⟨k, h1, h2⟩
  · exact .inl ⟨h1, h2⟩
  · exact .inr ⟨k, h1, get_old h2⟩
theorem GL.ext (h : GL sz enc S d l) (g : ExtS S T) : GL sz enc T d l := by
  rcases h with ⟨h1, h2⟩ | ⟨k, h1, h2⟩
  · exact .inl ⟨h1, h2⟩
  · exact .inr ⟨k, h1, g k _ h2⟩
theorem FLs.pure (h : FLs sz enc d l) (hp : pureLL (l.map enc) = true) : d.pure = true := by
  rcases h with ⟨rfl, -⟩ | ⟨x, rfl⟩
  · rfl
  · exact hp
set_option maxHeartbeats 400000 in
/-- An append of one element. -/
theorem app_gl {t e : TypeId} {z : D} {n : Nat} (h1 : elemT Tryd.prog t = some e) (h2 : sizeT Tryd.prog e = some (n + 1)) (h3 : zeroT Tryd.prog e = some z) (h4 : z.cells.length = n + 1) (h5 : bytesT Tryd.prog e ≤ 100000) (h : GL (n + 1) enc S d l) (hl : l.length ≤ 100000) (x : α) :
    ∃ S', dAppend Tryd.prog S t t d (.sl (n + 1) [enc x] true) = some (.os S.length 0 (l.length + 1) false, S') ∧ GL (n + 1) enc S' (.os S.length 0 (l.length + 1) false) (l ++ [x]) ∧ S'.length = S.length + 1 ∧ (∀ k o, (∀ n, d = .os k 0 n false → False) → S[k]? = some o → S'[k]? = some o) ∧ (∀ (k sz : Nat) (es : List (List D)), sz ≠ n + 1 → S[k]? = some (.row sz es) → S'[k]? = some (.row sz es)) := by
  have hb : (l.length + 1) * bytesT Tryd.prog e ≤ 140737488355328 := Nat.le_trans (Nat.mul_le_mul (Nat.succ_le_succ hl) h5) (by decide)
  have hm : (l.length + 1 ≤ maxLen) = True := le_max (by omega)
  rcases h with ⟨rfl, rfl⟩ | ⟨k, rfl, hk⟩
  · refine ⟨S ++ [.row (n + 1) [enc x]], ?_, .inr ⟨_, rfl, get_end⟩, by simp, fun k o _ h => get_old h, fun k sz es _ h => get_old h⟩
    rw [List.length_nil, Nat.zero_add, Nat.one_mul] at hb
    simp only [List.length_nil, Nat.zero_add] at hm
    simp only [dAppend, if_true, h1, h2, h3, h4, srcOf, List.length_cons, List.length_nil, Nat.zero_add, Nat.one_mul, hm, hb, and_self, Nat.succ_ne_zero, if_false, ↓reduceIte]
  · have hel : (l.map enc).length = l.length := by simp
    refine ⟨S.set k .dead ++ [.row (n + 1) (l.map enc ++ [enc x])], ?_, ?_, by simp, fun k' o hd h => ?_, fun k' sz es hz h => ?_⟩
    · have ht : (l.map enc).take l.length = l.map enc := by rw [← hel, List.take_length]
      generalize l.map enc = es at *
      simp only [dAppend, if_true, h1, h2, h3, h4, srcOf, hk, hel, Nat.zero_add, Nat.le_refl, and_self, List.drop_zero, ht, List.length_cons, List.length_nil, hm, hb, Nat.succ_ne_zero, if_false, ↓reduceIte]
    · refine .inr ⟨_, by rw [List.length_append]; rfl, ?_⟩
      rw [List.map_append]; exact get_end'
    · have hne : k ≠ k' := fun e => by subst e; exact hd _ rfl
      exact get_old (by rw [List.getElem?_set_ne hne]; exact h)
    · have hne : k ≠ k' := fun e => by
        subst e
        rw [hk] at h
        injection h with h
        injection h with h _
        exact hz h.symm
      exact get_old (by rw [List.getElem?_set_ne hne]; exact h)
end
set_option linter.unusedSimpArgs false

/-- The object that a slice may write. -/
def own : D → Option Nat
  | .os k _ _ _ => some k
  | _ => none
section
variable {α : Type} {val : α → D} {S T : List Ob} {d : D} {l : List α}
/-- A list in a row that may be longer. -/
def PL (val : α → D) (S : List Ob) (d : D) (l : List α) : Prop :=
  (d = .nils ∧ l = []) ∨ d = .sl 1 (l.map fun a => [val a]) true ∨ ∃ k es, d = .os k 0 l.length false ∧ S[k]? = some (.row 1 es) ∧ es.take l.length = l.map (fun a => [val a]) ∧ l.length ≤ es.length
theorem PL.keep (h : PL val S d l) (g : ∀ k o, own d = some k → S[k]? = some o → T[k]? = some o) : PL val T d l := by
  rcases h with h | h | ⟨k, es, h1, h2, h3, h4⟩
  · exact .inl h
  · exact .inr (.inl h)
  · exact .inr (.inr ⟨k, es, h1, g k _ (by rw [h1]; rfl) h2, h3, h4⟩)
theorem PL.lt (h : PL val S d l) {k : Nat} (hk : own d = some k) : k < S.length := by
  rcases h with ⟨rfl, -⟩ | rfl | ⟨k', es, rfl, h2, -, -⟩
  · cases hk
  · cases hk
  · cases hk; exact (List.getElem?_eq_some_iff.1 h2).1
theorem PL.os {k n : Nat} (h : PL val S (.os k 0 n false) l) : n = l.length ∧ ∃ es, S[k]? = some (.row 1 es) ∧ es.take l.length = l.map (fun a => [val a]) ∧ l.length ≤ es.length := by
  rcases h with ⟨h, -⟩ | h | ⟨k', es, h1, h2, h3, h4⟩
  · cases h
  · cases h
  · cases h1; exact ⟨rfl, es, h2, h3, h4⟩
theorem take_pre {es : List (List D)} {n m : Nat} (h : es.take n = l.map (fun a => [val a])) (hm : m ≤ n) : es.take m = (l.take m).map (fun a => [val a]) := by
  rw [List.map_take, ← h, List.take_take, Nat.min_eq_left hm]
/-- The list is shortened. -/
theorem PL.cut {k n m : Nat} (h : PL val S (.os k 0 n false) l) (hm : m ≤ n) : PL val S (.os k 0 m false) (l.take m) := by
  obtain ⟨rfl, es, h2, h3, h4⟩ := h.os
  have hl : (l.take m).length = m := by rw [List.length_take]; omega
  exact .inr (.inr ⟨k, es, by rw [hl], h2, by rw [hl]; exact take_pre h3 hm, by rw [hl]; omega⟩)
end

theorem keptS_app : ∀ (S J : List Ob), keptS S (S ++ J) = true
  | [], J => rfl
  | a :: S, J => by simp [keptS, beqOb_refl, keptS_app S J]
theorem keptS_refl (S : List Ob) : keptS S S = true := by
  have := keptS_app S []
  rwa [List.append_nil] at this
section
variable {call : Call} {st : Bool} {S : List Ob} {f : FuncId} {args : List D} {d d' : D} {T : List Ob}
theorem callD_obs (hm : E.mode f = .obs) (hp : pureL args = false) (h : call f args S = some (d, S)) (hd : d.pure = true) : callD E call st S f args = some (d, S) := by
  unfold callD
  rw [hm]
  dsimp only
  rw [if_neg (by rw [hp]; simp), h]
  dsimp only
  rw [hd, keptS_refl]; rfl
theorem callD_obsJ {J : List Ob} (hm : E.mode f = .obs) (hp : pureL args = false) (h : call f args S = some (d, S ++ J)) (hd : d.pure = true) : callD E call st S f args = some (d, S) := by
  unfold callD
  rw [hm]
  dsimp only
  rw [if_neg (by rw [hp]; simp), h]
  dsimp only
  rw [hd, keptS_app]; rfl
theorem callD_ext {J : List Ob} (hm : E.mode f = .ext) (h : call f args S = some (d, S ++ J)) : callD E call st S f args = some (d, S ++ J) := by
  unfold callD
  rw [hm]
  dsimp only
  rw [h]
  dsimp only
  rw [keptS_app]; rfl
end
end Go.Proofs.YtajhgnefcddenaaDoor.Dm
