/-
  Words for stores that grow, for lists of violations, for loops of a few rounds, and for results that are texts.
-/
import Derived.Test.YthkbiiammhekfaaGreatDoorWq
set_option linter.unusedSimpArgs false
set_option linter.unusedVariables false
namespace Go.Proofs.YthkbiiammhekfaaGreatDoor.Dm.Gw
open Go
set_option linter.unusedSimpArgs false

/-! A loop of a few rounds, round by round. -/
def WLn (E : Env) (call : Call) (n : Nat) (c : Code) (m : Nat) (a : List D) (S : List Ob) (Q : PostX) : Prop := WC (loopD (codeD E call n c) m a S) Q
def loopQ (E : Env) (call : Call) (n : Nat) (c : Code) (m : Nat) (Q : PostX) : PostX
  | .normal, a, S => WLn E call n c m a S Q
  | x, a, S => Q x a S
/-! Lists and stores. -/
theorem set_end {α : Type} {l : List α} {x y : α} : (l ++ [x]).set l.length y = l ++ [y] := by simp
theorem get_end {α : Type} {l : List α} {x : α} : (l ++ [x])[l.length]? = some x := by simp
theorem get_end' {α : Type} {l : List α} {i : Nat} {x y : α} : (l.set i y ++ [x])[l.length]? = some x := by
  have : (l.set i y).length = l.length := by simp
  rw [← this]; exact get_end
theorem get_old {S J : List Ob} {k : Nat} {o : Ob} (h : S[k]? = some o) : (S ++ J)[k]? = some o := by
  rw [List.getElem?_append_left ((List.getElem?_eq_some_iff.1 h).1)]; exact h
theorem drop_at {α : Type} {l : List α} {i : Nat} {x : α} (h : l[i]? = some x) : l.drop i = x :: l.drop (i + 1) := by
  obtain ⟨hl, hx⟩ := List.getElem?_eq_some_iff.1 h
  rw [← hx]
  exact List.drop_eq_getElem_cons hl
theorem callD_own {call : Call} {S : List Ob} {f : FuncId} {args : List D} (hm : E.mode f = .pure) (hp : pureL args = false) : callD E call false S f args = call f args S := by
  unfold callD
  rw [hm]
  dsimp only
  rw [if_neg (by rw [hp]; simp), if_neg (by simp)]
/-- All that lay there lies there still. -/
def ExtS (S T : List Ob) : Prop := ∀ (k : Nat) (x : Ob), S[k]? = some x → T[k]? = some x
theorem ExtS.push {S T : List Ob} (h : ExtS S T) (x : Ob) : ExtS S (T ++ [x]) := fun k y hy => get_old (h k y hy)
theorem ExtS.refl {S : List Ob} : ExtS S S := fun _ _ h => h
theorem ExtS.trans {S T U : List Ob} (h : ExtS S T) (g : ExtS T U) : ExtS S U := fun k y hy => g k y (h k y hy)

/-! Results that are texts. -/
def strOf : Option (D × List Ob) → Option ByteArray
  | some (.str s, _) => some s
  | _ => none
def sameS (a b : Option ByteArray) : Bool :=
  match a, b with
  | some x, some y => decide (x = y)
  | _, _ => false
theorem sameS_spec {a b : Option ByteArray} (h : sameS a b = true) : ∃ s, a = some s ∧ b = some s := by
  unfold sameS at h
  split at h
  · simp only [decide_eq_true_eq] at h; subst h; exact ⟨_, rfl, rfl⟩
  · cases h
theorem strOf_spec {o : Option (D × List Ob)} {s : ByteArray} (h : strOf o = some s) : ∃ T, o = some (.str s, T) := by
  unfold strOf at h
  split at h
  · cases h; exact ⟨_, rfl⟩
  · cases h
theorem bytes_refl (s : ByteArray) : (s == s) = true := by
  obtain ⟨d⟩ := s
  show (d == d) = true
  simp

/-! Lists of violations. -/
def encF (f : Int × ByteArray) : List D := [.int .i64 f.1, .str f.2]
/-- A slice of violations, wherever it lies. -/
def FV (S : List Ob) (d : D) (fs : List (Int × ByteArray)) : Prop :=
  (d = .nils ∧ fs = []) ∨ (∃ x, d = .sl 2 (fs.map encF) x) ∨ ∃ k, d = .os k 0 fs.length false ∧ S[k]? = some (.row 2 (fs.map encF))
theorem encF_pure (fs : List (Int × ByteArray)) : pureLL (fs.map encF) = true := by
  induction fs with
  | nil => rfl
  | cons f fs ih => rw [List.map_cons, pureLL_cons, ih]; rfl
theorem FV.frozen {T S : List Ob} {d : D} {fs : List (Int × ByteArray)} (h : FV T d fs) : ∃ d', freeze T 40 d = some d' ∧ FV S d' fs := by
  rcases h with ⟨rfl, rfl⟩ | ⟨x, rfl⟩ | ⟨k, rfl, hk⟩
  · exact ⟨_, rfl, .inl ⟨rfl, rfl⟩⟩
  · exact ⟨_, freeze_pure (encF_pure fs), .inr (.inl ⟨x, rfl⟩)⟩
  · have := freeze_os (n := 38) (x := false) hk (encF_pure fs)
    rw [List.length_map] at this
    exact ⟨_, this, .inr (.inl ⟨_, rfl⟩)⟩
theorem plain_fault : plainEqT Tryz.prog 125 = true := by kernel_rfl
set_option maxRecDepth 100000 in
theorem eq_fault (a : Int) (s : ByteArray) : dEq Tryz.prog 10000 125 (.agg [.int .i64 a, .str s]) (.agg [.int .i64 a, .str s]) = some true := by
  rw [show (10000 : Nat) = 9998 + 1 + 1 from rfl]
  have hs : Tryz.prog.stoodInHeld 125 = false := by kernel_rfl
  simp (decide := true) only [push_cast, dEq, dEqs, beq_self_eq_true, bytes_refl, hs]
/-- A list of violations that grows. -/
def GV (S : List Ob) (d : D) (fs : List (Int × ByteArray)) : Prop :=
  (d = .nils ∧ fs = []) ∨ ∃ k, d = .os k 0 fs.length false ∧ S[k]? = some (.row 2 (fs.map encF))
theorem GV.push {S : List Ob} {d : D} {fs : List (Int × ByteArray)} (h : GV S d fs) (o : Ob) : GV (S ++ [o]) d fs := by
  rcases h with ⟨h1, h2⟩ | ⟨k, h1, h2⟩
  · exact .inl ⟨h1, h2⟩
  · exact .inr ⟨k, h1, get_old h2⟩
theorem GV.ext {S T : List Ob} {d : D} {fs : List (Int × ByteArray)} (h : GV S d fs) (g : ExtS S T) : GV T d fs := by
  rcases h with ⟨h1, h2⟩ | ⟨k, h1, h2⟩
  · exact .inl ⟨h1, h2⟩
  · exact .inr ⟨k, h1, g k _ h2⟩
theorem el_fault : elemT Tryz.prog 27 = some 125 := by kernel_rfl
/-- Rows that are not violations stay where they are. -/
def KeepR (S T : List Ob) : Prop := ∀ (k sz : Nat) (es : List (List D)), sz ≠ 2 → S[k]? = some (.row sz es) → T[k]? = some (.row sz es)
def ifF (b : Bool) (e : Int) (s : ByteArray) : List (Int × ByteArray) := if b = true then [(e, s)] else []
theorem ifF_len (b : Bool) (e : Int) (s : ByteArray) : (ifF b e s).length ≤ 1 := by unfold ifF; split <;> simp
/-- The first place where something holds, or -1. -/
def fdx {α : Type} (p : α → Bool) : Nat → List α → Int
  | _, [] => -1
  | i, x :: l => if p x = true then (i : Int) else fdx p (i + 1) l
theorem fdx_any {α : Type} (p : α → Bool) : ∀ (l : List α) (i : Nat), decide (0 ≤ fdx p i l) = l.any p
  | [], i => rfl
  | x :: l, i => by
    unfold fdx
    rw [List.any_cons, ← fdx_any p l (i + 1)]
    cases h : p x
    · rw [if_neg (by simp), Bool.false_or]
    · rw [if_pos rfl, Bool.true_or]; exact decide_eq_true (by omega)
end Go.Proofs.YthkbiiammhekfaaGreatDoor.Dm.Gw
