/-
  More words for runs of the machine.
  A sequence, cut behind its first part.
  The machine with more fuel hands back the same.
  Regions that are run by a plan, by weakest preconditions: every order has the same end.
-/
import Derived.Test.YthkbiiammhekfaaGreatDoorWp
set_option linter.unusedSimpArgs false
set_option linter.unusedVariables false
namespace Go.Proofs.YthkbiiammhekfaaGreatDoor.Dm
open Go
theorem le_max {n : Nat} (h : n ≤ 1000000000) : (n ≤ maxLen) = True := by
  simp only [maxLen, eq_iff_iff, iff_true]; omega
def evParts (ev : Operand → D) : List (Nat × Operand) → List (Nat × D)
  | [] => []
  | (i, x) :: l => (i, ev x) :: evParts ev l
theorem evParts_map {ev : Operand → D} : ∀ l : List (Nat × Operand), (l.map fun p => (p.1, ev p.2)) = evParts ev l
  | [] => rfl
  | (i, x) :: l => by rw [List.map_cons, evParts_map l]; rfl
theorem wo_build {E : Env} {call : Call} {dr : Bool} {ev : Operand → D} {S : List Ob} {t : TypeId} {l : List (Nat × Operand)} {Q : D → List Ob → Prop} :
    WO (dOp E call dr ev S (.build t l.toArray)) Q = WO ((dBuild E.P t (evParts ev l)).map (·, S)) Q := by
  rw [← evParts_map]; rfl
theorem wo_buildSlice {E : Env} {call : Call} {dr : Bool} {ev : Operand → D} {S : List Ob} {t : TypeId} {n : Nat} {l : List (Nat × Operand)} {Q : D → List Ob → Prop} :
    WO (dOp E call dr ev S (.buildSlice t n l.toArray)) Q = WO ((dBuildSlice E.P t n (evParts ev l)).map (·, S)) Q := by
  rw [← evParts_map]; rfl
theorem wc_scut {E : Env} {call : Call} {n : Nat} {x y : Code} {a : List D} {S : List Ob} {Q : PostX} (P : List D → List Ob → Prop) (h : WC (codeD E call n x a S) fun r a S => r = .normal ∧ P a S) (k : ∀ a S, P a S → WC (codeD E call n y a S) Q) :
    WC (codeD E call n (.seq x y) a S) Q := by
  rw [wc_seq]
  refine wc_mono h ?_
  rintro r a S ⟨rfl, hp⟩
  exact k a S hp

def CallLe (c c' : Call) : Prop := ∀ f a S r, c f a S = some r → c' f a S = some r
section
variable {E : Env} {c c' : Call} (h : CallLe c c')
include h
theorem callD_le {st : Bool} {S : List Ob} {f : FuncId} {args : List D} {r : D × List Ob} (k : callD E c st S f args = some r) : callD E c' st S f args = some r := by
  unfold callD at k ⊢
  cases hm : E.mode f <;> rw [hm] at k <;> dsimp only at k ⊢
  · cases k
  · exact h _ _ _ _ k
  · split
    · rename_i hp
      rw [if_pos hp] at k
      cases hc : c f args [] with
      | none => rw [hc] at k; cases k
      | some p => rw [hc] at k; rw [h _ _ _ _ hc]; exact k
    · rename_i hp
      rw [if_neg hp] at k
      split
      · rename_i hd; rw [if_pos hd] at k; cases k
      · rename_i hd; rw [if_neg hd] at k; exact h _ _ _ _ k
  · split
    · rename_i hp
      rw [if_pos hp] at k
      cases hc : c f args [] with
      | none => rw [hc] at k; cases k
      | some p => rw [hc] at k; rw [h _ _ _ _ hc]; exact k
    · rename_i hp
      rw [if_neg hp] at k
      cases hc : c f args S with
      | none => rw [hc] at k; cases k
      | some p => rw [hc] at k; rw [h _ _ _ _ hc]; exact k
  · cases hc : c f args S with
    | none => rw [hc] at k; cases k
    | some p => rw [hc] at k; rw [h _ _ _ _ hc]; exact k
theorem dOp_le {st : Bool} {ev : Operand → D} {S : List Ob} {op : Op} {r : D × List Ob} (k : dOp E c st ev S op = some r) : dOp E c' st ev S op = some r := by
  cases op with
  | call d =>
    obtain ⟨callee, args, tys⟩ := d
    cases callee with
    | builtin b => exact k
    | invoke a b => exact k
    | value f =>
      cases f with
      | func g =>
        simp only [dOp] at k ⊢
        cases hx : E.ext g with
        | some p => rw [hx] at k; exact k
        | none => rw [hx] at k; exact callD_le h k
      | _ =>
        simp only [dOp] at k ⊢
        split at k
        · rename_i g x y hg
          try rw [hg]
          try dsimp only
          split at k
          · cases k
          · rename_i hn
            rw [if_neg hn]
            exact callD_le h k
        · cases k
  | makeFunc fn x y => cases fn <;> exact k
  | makeMap t r => cases r <;> exact k
  | next x b => cases b <;> exact k
  | _ => exact k
theorem stepD_le {st : Bool} {ops : Array Oper} {o : Oper} {a : List D} {S : List Ob} {r : List D × List Ob} (k : stepD E c st ops o a S = some r) : stepD E c' st ops o a S = some r := by
  unfold stepD at k ⊢
  split at k
  · cases k
  · rename_i hw; try rw [hw]
    exact k
  · rename_i hw
    try rw [hw]
    try dsimp only
    cases hd : dOp E c st (evD E a) S o.op with
    | none => rw [hd] at k; cases k
    | some p => rw [hd] at k; rw [dOp_le h hd]; exact k
theorem runD_le {st : Bool} {ops : Array Oper} : ∀ {l : List Oper} {a : List D} {S : List Ob} {r : List D × List Ob}, runD E c st ops l a S = some r → runD E c' st ops l a S = some r
  | [], _, _, _, k => k
  | o :: l, a, S, r, k => by
    unfold runD at k ⊢
    cases hd : stepD E c st ops o a S with
    | none => rw [hd] at k; cases k
    | some p => rw [hd] at k; rw [stepD_le h hd]; exact runD_le k
theorem planD_le {ops : Array Oper} {L : List Nat} {b : Nat} : ∀ {p : Plan} {a : List D} {S : List Ob} {r : List D × List Ob}, planD E c ops L b p a S = some r → planD E c' ops L b p a S = some r
  | .done, _, _, _, k => k
  | .step i p, a, S, r, k => by
    unfold planD at k ⊢
    split at k
    · rename_i o ho
      try rw [ho]
      try dsimp only
      have st : ∀ q, stepW E c ops L b i o a S = some q → stepW E c' ops L b i o a S = some q := by
        intro q hq
        unfold stepW at hq ⊢
        cases hs : slotN L i with
        | none => rw [hs] at hq; exact stepD_le h hq
        | some s => rw [hs] at hq; exact hq
      cases hd : stepW E c ops L b i o a S with
      | none => rw [hd] at k; cases k
      | some p => rw [hd] at k; rw [st _ hd]; exact planD_le k
    · cases k
  | .both p q, a, S, r, k => by
    unfold planD at k ⊢
    cases h1 : planD E c ops L b p a S with
    | none => rw [h1] at k; cases k
    | some x =>
      cases h2 : planD E c ops L b q a S with
      | none => rw [h1, h2] at k; cases k
      | some y => rw [h1, h2] at k; rw [planD_le h1, planD_le h2]; exact k
omit h in
theorem loopD_le {b b' : List D → List Ob → Out} (hb : ∀ a S r, b a S = some r → b' a S = some r) : ∀ {n m : Nat} {a : List D} {S : List Ob} {r : DX × List D × List Ob}, n ≤ m → loopD b n a S = some r → loopD b' m a S = some r
  | 0, _, _, _, _, _, k => by cases k
  | n + 1, 0, _, _, _, hn, _ => by omega
  | n + 1, m + 1, a, S, r, hn, k => by
    unfold loopD at k ⊢
    cases hc : b a S with
    | none => rw [hc] at k; cases k
    | some p =>
      obtain ⟨x, a', S'⟩ := p
      rw [hc] at k
      rw [hb _ _ _ hc]
      cases x with
      | normal => exact loopD_le hb (by omega) k
      | exit i => exact k
      | ret => exact k
theorem codeD_le {n m : Nat} (hn : n ≤ m) : ∀ {k : Code} {a : List D} {S : List Ob} {r : DX × List D × List Ob}, codeD E c n k a S = some r → codeD E c' m k a S = some r := by
  intro k
  induction k with
  | region i ops dr =>
    intro a S r k
    unfold codeD at k ⊢
    split at k
    · rename_i hp
      try rw [hp]
      try dsimp only
      cases hd : runD E c (dr && strictR E ops) ops ops.toList a S with
      | none => rw [hd] at k; cases k
      | some p => rw [hd] at k; rw [runD_le h hd]; exact k
    · rename_i L p hp
      try rw [hp]
      try dsimp only
      cases hd : planD E c ops L S.length p a (S ++ List.replicate L.length .dead) with
      | none => rw [hd] at k; cases k
      | some q => rw [hd] at k; rw [planD_le h hd]; exact k
  | seq x y ihx ihy =>
    intro a S r k
    unfold codeD at k ⊢
    cases hx : codeD E c n x a S with
    | none => rw [hx] at k; cases k
    | some p =>
      obtain ⟨z, a', S'⟩ := p
      rw [hx] at k
      rw [ihx hx]
      cases z with
      | normal => exact ihy k
      | exit i => exact k
      | ret => exact k
  | cond o x y ihx ihy =>
    intro a S r k
    unfold codeD at k ⊢
    split at k
    · rename_i e; try rw [e]
      exact ihx k
    · rename_i e; try rw [e]
      exact ihy k
    · cases k
  | block i x ih =>
    intro a S r k
    unfold codeD at k ⊢
    cases hx : codeD E c n x a S with
    | none => rw [hx] at k; cases k
    | some p => rw [hx] at k; rw [ih hx]; exact k
  | loop x ih =>
    intro a S r k
    exact loopD_le (fun a S r => ih) hn k
  | scope x ih => intro a S r k; exact ih k
  | skip => intro a S r k; exact k
  | exit i => intro a S r k; exact k
  | label i => intro a S r k; exact k
  | ret => intro a S r k; exact k
  | _ => intro a S r k; cases k
end
theorem dcall_le {E : Env} : ∀ {n m : Nat}, n ≤ m → CallLe (dcall E n) (dcall E m)
  | 0, _, _ => fun f a S r k => by cases k
  | n + 1, 0, hn => by omega
  | n + 1, m + 1, hn => fun f a S r k => by
    unfold dcall at k ⊢
    split at k
    · cases k
    · rename_i hm
      rw [if_neg hm]
      split at k
      · rename_i p hp; try rw [hp]
        exact k
      · rename_i hp
        try rw [hp]
        try dsimp only
        split at k
        · rename_i fn hf
          try rw [hf]
          try dsimp only
          split at k
          · rename_i cd hb
            try rw [hb]
            try dsimp only
            cases hc : codeD E (dcall E n) n cd (a ++ List.replicate (fn.ntmps - a.length) (.tup [])) S with
            | none => rw [hc] at k; cases k
            | some p => rw [hc] at k; rw [codeD_le (dcall_le (by omega)) (by omega) hc]; exact k
          · cases k
        · cases k
/-- A call with more fuel. -/
theorem callD_up {n m : Nat} (hn : n ≤ m) {st : Bool} {S : List Ob} {f : FuncId} {args : List D} {r : D × List Ob} (k : callD E (dcall E n) st S f args = some r) : callD E (dcall E m) st S f args = some r := callD_le (dcall_le hn) k
mutual
theorem beqD_refl : ∀ d : D, beqD d d = true
  | .undef => rfl
  | .bool a => by simp [beqD]
  | .int k a => by simp [beqD]
  | .str a => by simp [beqD]
  | .nilp => rfl
  | .ref a o => by simp [beqD, beqL_refl a]
  | .loc k i o => by simp [beqD]
  | .nils => rfl
  | .sl z a x => by simp [beqD, beqLL_refl a]
  | .os k i n x => by simp [beqD]
  | .osc k i n c => by simp [beqD]
  | .itE k => by simp [beqD]
  | .nilm => rfl
  | .it0 => rfl
  | .map k => by simp [beqD]
  | .nilf => rfl
  | .func f a b => by simp [beqD, beqL_refl a, beqL_refl b]
  | .nili => rfl
  | .iface t a => by simp [beqD, beqD_refl a]
  | .agg a => by simp [beqD, beqL_refl a]
  | .tup a => by simp [beqD, beqL_refl a]
theorem beqL_refl : ∀ l : List D, beqL l l = true
  | [] => rfl
  | a :: l => by simp [beqL, beqD_refl a, beqL_refl l]
theorem beqLL_refl : ∀ l : List (List D), beqLL l l = true
  | [] => rfl
  | a :: l => by simp [beqLL, beqL_refl a, beqLL_refl l]
end
theorem beqP_refl : ∀ l : List (D × D), beqP l l = true
  | [] => rfl
  | (a, b) :: l => by simp [beqP, beqD_refl a, beqD_refl b, beqP_refl l]
theorem beqOb_refl (o : Ob) : beqOb o o = true := by
  cases o <;> simp [beqOb, beqLL_refl, beqP_refl]
section
variable {call : Call} {ops : Array Oper} {a : List D} {S : List Ob} {Q : Post}
/-- The operations that a list names. -/
def opsOf (ops : Array Oper) (l : List Nat) : List Oper := l.filterMap fun i => ops[i]?
end
end Go.Proofs.YthkbiiammhekfaaGreatDoor.Dm
