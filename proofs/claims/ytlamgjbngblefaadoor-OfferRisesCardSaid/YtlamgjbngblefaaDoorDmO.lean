/-
  The machine's operators, conversions, literals and new objects: each is what the model does.
-/
import Derived.Test.YtlamgjbngblefaaDoorDmB
import Derived.Laws.MakeOwn
namespace Go.Proofs.YtlamgjbngblefaaDoor.Dm
open Go Go.RowKit
set_option linter.unusedVariables false

section
variable {P : Program} {W : World} {C : Cx} {S : List Ob}
theorem run_dInt {op : BinOp} {k : IntKind} {a b : Int} {d : D} (h : dInt op k a b = some d) (t : TypeId) (hop : op ≠ .shl ∧ op ≠ .shr) : ∃ u, (binOp op t (.int k a) (.int k b)).run P W = .ok u W ∧ VR W C d u := by
  cases op <;> simp only [dInt, Option.some.injEq, reduceCtorEq] at h <;> try (subst h)
  case quo =>
    split at h
    · cases h
    · rename_i hb; cases h; refine ⟨_, ?_, .int _ _⟩; simp [binOp, Op.intDiv, hb]
  case rem =>
    split at h
    · cases h
    · rename_i hb; cases h; refine ⟨_, ?_, .int _ _⟩; simp [binOp, Op.intDiv, hb]
  all_goals first
    | (refine ⟨_, ?_, .int _ _⟩; simp [binOp, Op.intArith]; done)
    | (refine ⟨_, ?_, .int _ _⟩; simp [binOp, Op.intBits]; done)
    | (refine ⟨_, ?_, .int _ _⟩; simp [binOp, Op.intBits]; rfl)
    | (refine ⟨_, ?_, .bool _⟩; simp [binOp, Op.intCmp]; done)
    | (refine ⟨_, ?_, .bool _⟩; simp [binOp, Op.intCmp]; rfl)
theorem run_dShift {op : BinOp} {k k' : IntKind} {a b : Int} {d : D} (h : dShift op k a b = some d) (t : TypeId) : ∃ u, (Op.shift op k a k' b).run P W = .ok u W ∧ VR W C d u := by
  unfold dShift at h
  split at h
  · cases h
  · rename_i hb
    cases op <;> simp only [Option.some.injEq, reduceCtorEq] at h
    all_goals
      subst h
      refine ⟨_, ?_, .int _ _⟩
      simp [Op.shift, hb]
theorem run_dStr {op : BinOp} {a b : ByteArray} {d : D} (h : dStr op a b = some d) (t : TypeId) : ∃ u, (binOp op t (.string a) (.string b)).run P W = .ok u W ∧ VR W C d u := by
  cases op <;> simp only [dStr, Option.some.injEq, reduceCtorEq] at h <;> try (subst h)
  case add =>
    split at h
    · cases h
    · rename_i hl; cases h
      refine ⟨_, ?_, .str _⟩
      simp only [binOp, Op.stringOp, if_neg hl]
      rfl
  all_goals exact ⟨_, by simp only [binOp, Op.stringOp]; rfl, .bool _⟩
theorem guard_other {op : BinOp} (t : TypeId) (ox oy : Operand) {vx vy : Value} (h : ∀ a b, vx = .agg a → vy = .agg b → False) (h' : vx = .nilIface → vy = .nilIface → False) : (eqGuard op t ox oy vx vy).run P W = .ok () W := by
  have key : (match vx, vy with
      | .nilIface, .nilIface => (do
        if (ox matches .const _) || (oy matches .const _) then return
        if ← Op.eqGuardIn Op.maxDepth t vx vy then unsupported (.noEntry "binop/eql: two nil values of an interface type with methods, neither of them the literal nil") : Sem Unit)
      | .agg _, .agg _ => (do
        if !(← program).eqGuardType (← program).depth t then return
        if ← Op.eqGuardIn Op.maxDepth t vx vy then unsupported (.noEntry "binop/eql: two nil values of an interface type with methods, in a part of a struct or an array") : Sem Unit)
      | _, _ => pure ()).run P W = .ok () W := by
    split
    · exact (h' rfl rfl).elim
    · exact (h _ _ rfl rfl).elim
    · rfl
  unfold eqGuard
  split
  · exact key
  · exact key
  · rfl
theorem dEq_not_nil {d : Nat} {t : TypeId} {x y : D} {b : Bool} {vx vy : Value} (h : dEq P d t x y = some b) (hx : VR W C x vx) (hy : VR W C y vy) : ¬ (vx = .nilIface ∧ vy = .nilIface) := by
  rintro ⟨rfl, rfl⟩
  cases d with
  | zero => simp [dEq] at h
  | succ d =>
    cases hx <;> cases hy
    all_goals
      unfold dEq at h
      split at h <;> first | (cases h; done) | simp_all
theorem dEq_agg {d : Nat} {t : TypeId} {x y : D} {b : Bool} {u w : Array Value} (h : dEq P d t x y = some b) (hx : VR W C x (.agg u)) (hy : VR W C y (.agg w)) : ∃ a c, x = .agg a ∧ y = .agg c := by
  cases d with
  | zero => simp [dEq] at h
  | succ d =>
    cases hx <;> cases hy
    case agg.agg => exact ⟨_, _, rfl, rfl⟩
    all_goals
      unfold dEq at h
      split at h <;> first | (cases h; done) | simp_all
theorem binOp_eql {t : TypeId} {vx vy : Value} {b : Bool} (h : (Op.equal t vx vy).run P W = .ok b W) (hi : ∀ k a k' a', vx = .int k a → vy = .int k' a' → False) (hs : ∀ a a', vx = .string a → vy = .string a' → False)
    (hf : ∀ k a k' a', vx = .float k a → vy = .float k' a' → False) (hc : ∀ k a b k' a' b', vx = .complex k a b → vy = .complex k' a' b' → False) : (binOp .eql t vx vy).run P W = .ok (.bool b) W ∧ (binOp .neq t vx vy).run P W = .ok (.bool !b) W := by
  unfold binOp
  constructor
  · split <;> first | (rename_i e; cases e; done) | (exact (hi _ _ _ _ rfl rfl).elim) | (exact (hs _ _ rfl rfl).elim) | (exact (hf _ _ _ _ rfl rfl).elim) | (exact (hc _ _ _ _ _ _ rfl rfl).elim) | simp_all
  · split <;> first | (rename_i e; cases e; done) | (exact (hi _ _ _ _ rfl rfl).elim) | (exact (hs _ _ rfl rfl).elim) | (exact (hf _ _ _ _ rfl rfl).elim) | (exact (hc _ _ _ _ _ _ rfl rfl).elim) | simp_all
theorem eq_case {t : TypeId} {x y : D} {vx vy : Value} {b : Bool} (ox oy : Operand) (h : dEq P 10000 t x y = some b) (hx : VR W C x vx) (hy : VR W C y vy) (hni : ∀ k a k' a', x = .int k a → y = .int k' a' → False) (hns : ∀ a a', x = .str a → y = .str a' → False)
    (hag : ∀ a c, x = .agg a → y = .agg c → plainEqT P t = true) :
    (∀ op, (eqGuard op t ox oy vx vy).run P W = .ok () W) ∧ (binOp .eql t vx vy).run P W = .ok (.bool b) W ∧ (binOp .neq t vx vy).run P W = .ok (.bool !b) W := by
  have hr := run_dEq (W := W) (C := C) h hx hy
  refine ⟨fun op => ?_, binOp_eql hr ?_ ?_ ?_ ?_⟩
  · by_cases hA : ∃ a c, vx = .agg a ∧ vy = .agg c
    · obtain ⟨a, c, rfl, rfl⟩ := hA
      obtain ⟨a', c', rfl, rfl⟩ := dEq_agg h hx hy
      have hp := hag _ _ rfl rfl
      unfold plainEqT at hp
      unfold eqGuard
      split
      · simp only [Bool.not_true, Bool.false_eq_true, if_false, Sem.run_bind, run_program, Result.andThen_ok]
        rw [if_pos hp]; rfl
      · simp only [Bool.not_true, Bool.false_eq_true, if_false, Sem.run_bind, run_program, Result.andThen_ok]
        rw [if_pos hp]; rfl
      · rfl
    · exact guard_other t ox oy (fun a c e1 e2 => hA ⟨a, c, e1, e2⟩) (fun e1 e2 => dEq_not_nil h hx hy ⟨e1, e2⟩)
  · rintro k a k' a' rfl rfl
    cases hx with
    | int => cases hy with
      | int => exact hni _ _ _ _ rfl rfl
      | undef => simp [dEq] at h
    | undef => cases hy <;> simp [dEq] at h
  · rintro a a' rfl rfl
    cases hx with
    | str => cases hy with
      | str => exact hns _ _ rfl rfl
      | undef => simp [dEq] at h
    | undef => cases hy <;> simp [dEq] at h
  · rintro k a k' a' rfl rfl
    cases hx; cases hy; simp [dEq] at h
  · rintro k a b k' a' b' rfl rfl
    cases hx; cases hy; simp [dEq] at h
theorem run_dBin {op : BinOp} {t : TypeId} {x y d : D} {vx vy : Value} (ox oy : Operand) (h : dBin P op t x y = some d) (hx : VR W C x vx) (hy : VR W C y vy) : (eqGuard op t ox oy vx vy).run P W = .ok () W ∧ ∃ u, (binOp op t vx vy).run P W = .ok u W ∧ VR W C d u := by
  unfold dBin at h
  split at h
  · cases hx; cases hy
    refine ⟨guard_other _ _ _ (fun a b e => by cases e) (fun e => by cases e), ?_⟩
    obtain ⟨u, hu, hr⟩ := run_dShift (P := P) (W := W) (C := C) h t
    exact ⟨u, by simp only [binOp]; exact hu, hr⟩
  · cases hx; cases hy
    refine ⟨guard_other _ _ _ (fun a b e => by cases e) (fun e => by cases e), ?_⟩
    obtain ⟨u, hu, hr⟩ := run_dShift (P := P) (W := W) (C := C) h t
    exact ⟨u, by simp only [binOp]; exact hu, hr⟩
  · rename_i h1 h2
    cases hx; cases hy
    refine ⟨guard_other _ _ _ (fun a b e => by cases e) (fun e => by cases e), ?_⟩
    split at h
    · rename_i hk; subst hk
      exact run_dInt h t ⟨h1, h2⟩
    · cases h
  · cases hx; cases hy
    exact ⟨guard_other _ _ _ (fun a b e => by cases e) (fun e => by cases e), run_dStr h t⟩
  · split at h
    · rename_i hp
      obtain ⟨b, hb, rfl⟩ := Option.map_eq_some_iff.1 h
      have := eq_case ox oy hb hx hy (fun _ _ _ _ e => by cases e) (fun _ _ e => by cases e) (fun _ _ _ _ => hp)
      exact ⟨this.1 _, _, this.2.1, .bool _⟩
    · cases h
  · split at h
    · rename_i hp
      obtain ⟨b, hb, rfl⟩ := Option.map_eq_some_iff.1 h
      have := eq_case ox oy hb hx hy (fun _ _ _ _ e => by cases e) (fun _ _ e => by cases e) (fun _ _ _ _ => hp)
      exact ⟨this.1 _, _, this.2.2, .bool _⟩
    · cases h
  · rename_i h1 h2 h3
    obtain ⟨b, hb, rfl⟩ := Option.map_eq_some_iff.1 h
    have := eq_case ox oy hb hx hy (fun k a k' a' e1 e2 => by first | exact h1 _ _ _ _ e1 e2 | exact h2 _ _ _ _ e1 e2 | exact h3 _ _ _ _ e1 e2) (fun a a' e1 e2 => by first | exact h1 _ _ e1 e2 | exact h2 _ _ e1 e2 | exact h3 _ _ e1 e2) (fun a c e1 e2 => by first | exact (h1 _ _ e1 e2).elim | exact (h2 _ _ e1 e2).elim | exact (h3 _ _ e1 e2).elim)
    exact ⟨this.1 _, _, this.2.1, .bool _⟩
  · rename_i h1 h2 h3
    obtain ⟨b, hb, rfl⟩ := Option.map_eq_some_iff.1 h
    have := eq_case ox oy hb hx hy (fun k a k' a' e1 e2 => by first | exact h1 _ _ _ _ e1 e2 | exact h2 _ _ _ _ e1 e2 | exact h3 _ _ _ _ e1 e2) (fun a a' e1 e2 => by first | exact h1 _ _ e1 e2 | exact h2 _ _ e1 e2 | exact h3 _ _ e1 e2) (fun a c e1 e2 => by first | exact (h1 _ _ e1 e2).elim | exact (h2 _ _ e1 e2).elim | exact (h3 _ _ e1 e2).elim)
    exact ⟨this.1 _, _, this.2.2, .bool _⟩
  · cases h
theorem run_dUn {op : UnOp} {x d : D} {v : Value} (h : dUn op x = some d) (hx : VR W C x v) : ∃ u, (Op.unary op v).run P W = .ok u W ∧ VR W C d u := by
  unfold dUn at h
  split at h
  · cases h; cases hx; refine ⟨_, ?_, .int _ _⟩; simp [Op.unary, Op.intArith]
  · rename_i k n
    cases hx
    simp only [dInt, Option.some.injEq] at h
    subst h
    refine ⟨_, ?_, .int _ _⟩; simp [Op.unary, Op.intBits]
  · cases h; cases hx; refine ⟨_, ?_, .bool _⟩; simp [Op.unary]
  · cases h
theorem run_dConv {s t : TypeId} {x d : D} {v : Value} (h : dConv P s t x = some d) (hx : VR W C x v) : ∃ u, (convert s t v).run P W = .ok u W ∧ VR W C d u := by
  unfold dConv at h
  split at h
  · rename_i ds k _ n h1 h2
    cases h; cases hx
    refine ⟨_, ?_, .int _ _⟩
    simp [convert, run_underlying h1, run_underlying h2, Conv.intToInt]
  · rename_i ds s' h1 h2
    cases h; cases hx
    refine ⟨_, ?_, .str _⟩
    simp [convert, run_underlying h1, run_underlying h2]
  · cases h
end
end Go.Proofs.YtlamgjbngblefaaDoor.Dm
