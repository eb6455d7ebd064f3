/-
  Words for stores that grow, for lists of violations, for loops of a few rounds, and for results that are texts.
-/
import Derived.Test.YtlamgjbngblefaaGreatDoorWq
namespace Go.Proofs.YtlamgjbngblefaaGreatDoor.Dm.Gw
open Go
set_option linter.unusedSimpArgs false

/-! A loop of a few rounds, round by round. -/
def WLn (E : Env) (call : Call) (n : Nat) (c : Code) (m : Nat) (a : List D) (S : List Ob) (Q : PostX) : Prop := WC (loopD (codeD E call n c) m a S) Q
def loopQ (E : Env) (call : Call) (n : Nat) (c : Code) (m : Nat) (Q : PostX) : PostX
  | .normal, a, S => WLn E call n c m a S Q
  | x, a, S => Q x a S
theorem wl_wln {E : Env} {call : Call} {n : Nat} {c : Code} {a : List D} {S : List Ob} {Q : PostX} : WL E call n c a S Q = WLn E call n c n a S Q := rfl
theorem wln_succ {E : Env} {call : Call} {n m : Nat} {c : Code} {a : List D} {S : List Ob} {Q : PostX} : WLn E call n c (m + 1) a S Q = WC (codeD E call n c a S) (loopQ E call n c m Q) := by
  unfold WLn
  rw [loopD]
  rcases codeD E call n c a S with _ | ⟨d, a', S'⟩
  · simp only [wc_none]
  · cases d <;> simp only [wc_some, loopQ, WLn]
theorem loopQ_normal {E : Env} {call : Call} {n m : Nat} {c : Code} {a : List D} {S : List Ob} {Q : PostX} : loopQ E call n c m Q .normal a S = WLn E call n c m a S Q := rfl
theorem loopQ_exit {E : Env} {call : Call} {n m i : Nat} {c : Code} {a : List D} {S : List Ob} {Q : PostX} : loopQ E call n c m Q (.exit i) a S = Q (.exit i) a S := rfl
theorem loopQ_ret {E : Env} {call : Call} {n m : Nat} {c : Code} {a : List D} {S : List Ob} {Q : PostX} : loopQ E call n c m Q .ret a S = Q .ret a S := rfl

/-! Lists and stores. -/
theorem set_end {α : Type} {l : List α} {x y : α} : (l ++ [x]).set l.length y = l ++ [y] := by simp
theorem get_end {α : Type} {l : List α} {x : α} : (l ++ [x])[l.length]? = some x := by simp
theorem get_end' {α : Type} {l : List α} {i : Nat} {x y : α} : (l.set i y ++ [x])[l.length]? = some x := by
  have : (l.set i y).length = l.length := by simp
  rw [← this]; exact get_end
theorem get_old {S J : List Ob} {k : Nat} {o : Ob} (h : S[k]? = some o) : (S ++ J)[k]? = some o := by
  rw [List.getElem?_append_left ((List.getElem?_eq_some_iff.1 h).1)]; exact h
theorem drop_at {α : Type} {l : List α} {i : Nat} {x : α} (h : l[i]? = some x) : l.drop i = x :: l.drop (i + 1) := by
  obtain ⟨hl, hx⟩ := List.getElem?_eq_some_iff.1 h
  rw [← hx]
  exact List.drop_eq_getElem_cons hl
theorem callD_own {call : Call} {S : List Ob} {f : FuncId} {args : List D} (hm : E.mode f = .pure) (hp : pureL args = false) : callD E call false S f args = call f args S := by
  unfold callD
  rw [hm]
  dsimp only
  rw [if_neg (by rw [hp]; simp), if_neg (by simp)]
/-- All that lay there lies there still. -/
def ExtS (S T : List Ob) : Prop := ∀ (k : Nat) (x : Ob), S[k]? = some x → T[k]? = some x
theorem ExtS.push {S T : List Ob} (h : ExtS S T) (x : Ob) : ExtS S (T ++ [x]) := fun k y hy => get_old (h k y hy)
theorem ExtS.refl {S : List Ob} : ExtS S S := fun _ _ h => h
theorem ExtS.trans {S T U : List Ob} (h : ExtS S T) (g : ExtS T U) : ExtS S U := fun k y hy => g k y (h k y hy)

/-! Results that are texts. -/
def strOf : Option (D × List Ob) → Option ByteArray
  | some (.str s, _) => some s
  | _ => none
def sameS (a b : Option ByteArray) : Bool :=
  match a, b with
  | some x, some y => decide (x = y)
  | _, _ => false
theorem sameS_spec {a b : Option ByteArray} (h : sameS a b = true) : ∃ s, a = some s ∧ b = some s := by
  unfold sameS at h
  split at h
  · simp only [decide_eq_true_eq] at h; subst h; exact ⟨_, rfl, rfl⟩
  · cases h
theorem strOf_spec {o : Option (D × List Ob)} {s : ByteArray} (h : strOf o = some s) : ∃ T, o = some (.str s, T) := by
  unfold strOf at h
  split at h
  · cases h; exact ⟨_, rfl⟩
  · cases h
theorem ba_eq {a b : ByteArray} (h : (a.toList == b.toList) = true) : a = b := by
  rw [beq_iff_eq, ByteArray.toList_eq, ByteArray.toList_eq] at h
  cases a; cases b
  simpa using h
theorem bytes_refl (s : ByteArray) : (s == s) = true := by
  obtain ⟨d⟩ := s
  show (d == d) = true
  simp

/-! Lists of violations. -/
def encF (f : Int × ByteArray) : List D := [.int .i64 f.1, .str f.2]
/-- A slice of violations, wherever it lies. -/
def FV (S : List Ob) (d : D) (fs : List (Int × ByteArray)) : Prop :=
  (d = .nils ∧ fs = []) ∨ (∃ x, d = .sl 2 (fs.map encF) x) ∨ ∃ k, d = .os k 0 fs.length false ∧ S[k]? = some (.row 2 (fs.map encF))
theorem encF_pure (fs : List (Int × ByteArray)) : pureLL (fs.map encF) = true := by
  induction fs with
  | nil => rfl
  | cons f fs ih => rw [List.map_cons, pureLL_cons, ih]; rfl
theorem FV.frozen {T S : List Ob} {d : D} {fs : List (Int × ByteArray)} (h : FV T d fs) : ∃ d', freeze T 40 d = some d' ∧ FV S d' fs := by
  rcases h with ⟨rfl, rfl⟩ | ⟨x, rfl⟩ | ⟨k, rfl, hk⟩
  · exact ⟨_, rfl, .inl ⟨rfl, rfl⟩⟩
  · exact ⟨_, freeze_pure (encF_pure fs), .inr (.inl ⟨x, rfl⟩)⟩
  · have := freeze_os (n := 38) (x := false) hk (encF_pure fs)
    rw [List.length_map] at this
    exact ⟨_, this, .inr (.inl ⟨_, rfl⟩)⟩
theorem plain_fault : plainEqT Tryz.prog 136 = true := by kernel_rfl
set_option maxRecDepth 100000 in
theorem eq_fault (a : Int) (s : ByteArray) : dEq Tryz.prog 10000 136 (.agg [.int .i64 a, .str s]) (.agg [.int .i64 a, .str s]) = some true := by
  rw [show (10000 : Nat) = 9998 + 1 + 1 from rfl]
  have hs : Tryz.prog.stoodInHeld 136 = false := by kernel_rfl
  simp (decide := true) only [push_cast, dEq, dEqs, beq_self_eq_true, bytes_refl, hs]
/-- A list of violations that grows. -/
def GV (S : List Ob) (d : D) (fs : List (Int × ByteArray)) : Prop :=
  (d = .nils ∧ fs = []) ∨ ∃ k, d = .os k 0 fs.length false ∧ S[k]? = some (.row 2 (fs.map encF))
theorem GV.fv {S : List Ob} {d : D} {fs : List (Int × ByteArray)} (h : GV S d fs) : FV S d fs := by
  rcases h with ⟨h1, h2⟩ | ⟨k, h1, h2⟩
  · exact .inl ⟨h1, h2⟩
  · exact .inr (.inr ⟨k, h1, h2⟩)
theorem GV.push {S : List Ob} {d : D} {fs : List (Int × ByteArray)} (h : GV S d fs) (o : Ob) : GV (S ++ [o]) d fs := by
  rcases h with ⟨h1, h2⟩ | ⟨k, h1, h2⟩
  · exact .inl ⟨h1, h2⟩
  · exact .inr ⟨k, h1, get_old h2⟩
theorem GV.ext {S T : List Ob} {d : D} {fs : List (Int × ByteArray)} (h : GV S d fs) (g : ExtS S T) : GV T d fs := by
  rcases h with ⟨h1, h2⟩ | ⟨k, h1, h2⟩
  · exact .inl ⟨h1, h2⟩
  · exact .inr ⟨k, h1, g k _ h2⟩
theorem el_fault : elemT Tryz.prog 50 = some 136 := by kernel_rfl
set_option maxHeartbeats 400000 in
theorem app_fault {S : List Ob} {d : D} {fs : List (Int × ByteArray)} (h : GV S d fs) (hl : fs.length ≤ 1000) (e : Int) (s : ByteArray) :
    ∃ S', dAppend Tryz.prog S 50 50 d (.sl 2 [[.int .i64 e, .str s]] true) = some (.os S.length 0 (fs.length + 1) false, S') ∧ S'[S.length]? = some (.row 2 ((fs ++ [(e, s)]).map encF)) ∧ (∀ k o, (∀ n, d = .os k 0 n false → False) → S[k]? = some o → S'[k]? = some o) := by
  rcases h with ⟨rfl, rfl⟩ | ⟨k, rfl, hk⟩
  · refine ⟨S ++ [.row 2 [[.int .i64 e, .str s]]], ?_, get_end, fun k o _ h => get_old h⟩
    simp (maxSteps := 1000000) (disch := omega) only [push_cast, ↓wc_seq, ↓wc_block, ↓wc_scope, ↓wc_condL, ↓wc_region, ↓wr_cons, ↓wr_consgL, ↓wr_nil, ↓wo_pickL, ↓wo_callf, ↓wc_exit, ↓wc_ret, ↓wc_skip, ↓wc_wl, wo_some, wo_none, wo_ite, opQ_eq, seqQ_normal, seqQ_exit, seqQ_ret, blockQ_normal, blockQ_exit, blockQ_ret, iterQ_normal, iterQ_exit, iterQ_ret, retQ_normal, retQ_ret, retQ_exit, pickC_true, pickC_false, pickO_true, pickO_false, gstep_tt, gstep_ff, gstep_tf, gstep_ft, gstep_skip, int_bne, int_beq, decide_not, Nat.reduceAdd, Nat.reduceMul, Nat.reduceSub, Nat.reducePow, Nat.reduceLT, Nat.reduceLeDiff, Nat.reduceEqDiff, Int.reduceToNat, Int.reduceAdd, Int.reduceSub, Int.reduceNeg, Int.reduceMul, Int.reduceLT, Int.reduceLE, Int.reduceEq, le_max, ↓wo_build, ↓wo_buildSlice, evParts, ↓reduceIte, planIds, hasExt, cntFs, idxFs, clnFs, ovlFs, List.contains_cons, List.contains_nil, List.any_cons, List.any_nil, Nat.reduceBEq, setC, List.length_set, decide_eq_true_eq, decide_eq_false_iff_not, true_implies, false_implies, forall_const, reduceCtorEq, eq_self, Int.natCast_nonneg, Int.toNat_natCast, Int.ofNat_lt, D.int.injEq, Option.some.injEq, Nat.zero_add, Nat.add_zero, bne_iff_ne, bne_eq_false_iff_eq, beq_iff_eq, beq_eq_false_iff_ne, gt_iff_lt, ne_eq, not_true_eq_false, not_false_eq_true, planIds, hasExt, cntFs, idxFs, clnFs, ovlFs, List.contains_cons, List.contains_nil, List.any_cons, List.any_nil, Nat.reduceBEq, Nat.reduceMul, Nat.reduceAdd, ↓reduceIte, dAppend]
  · refine ⟨S.set k .dead ++ [.row 2 (fs.map encF ++ [[.int .i64 e, .str s]])], ?_, ?_, fun k' o hd h => ?_⟩
    · have hel : (fs.map encF).length = fs.length := by simp
      have hm : (fs.map encF).take fs.length = fs.map encF := by rw [← hel, List.take_length]
      generalize fs.map encF = es at *
      simp (maxSteps := 1000000) (disch := omega) only [push_cast, ↓wc_seq, ↓wc_block, ↓wc_scope, ↓wc_condL, ↓wc_region, ↓wr_cons, ↓wr_consgL, ↓wr_nil, ↓wo_pickL, ↓wo_callf, ↓wc_exit, ↓wc_ret, ↓wc_skip, ↓wc_wl, wo_some, wo_none, wo_ite, opQ_eq, seqQ_normal, seqQ_exit, seqQ_ret, blockQ_normal, blockQ_exit, blockQ_ret, iterQ_normal, iterQ_exit, iterQ_ret, retQ_normal, retQ_ret, retQ_exit, pickC_true, pickC_false, pickO_true, pickO_false, gstep_tt, gstep_ff, gstep_tf, gstep_ft, gstep_skip, int_bne, int_beq, decide_not, Nat.reduceAdd, Nat.reduceMul, Nat.reduceSub, Nat.reducePow, Nat.reduceLT, Nat.reduceLeDiff, Nat.reduceEqDiff, Int.reduceToNat, Int.reduceAdd, Int.reduceSub, Int.reduceNeg, Int.reduceMul, Int.reduceLT, Int.reduceLE, Int.reduceEq, le_max, ↓wo_build, ↓wo_buildSlice, evParts, ↓reduceIte, planIds, hasExt, cntFs, idxFs, clnFs, ovlFs, List.contains_cons, List.contains_nil, List.any_cons, List.any_nil, Nat.reduceBEq, setC, List.length_set, decide_eq_true_eq, decide_eq_false_iff_not, true_implies, false_implies, forall_const, reduceCtorEq, eq_self, Int.natCast_nonneg, Int.toNat_natCast, Int.ofNat_lt, D.int.injEq, Option.some.injEq, Nat.zero_add, Nat.add_zero, bne_iff_ne, bne_eq_false_iff_eq, beq_iff_eq, beq_eq_false_iff_ne, gt_iff_lt, ne_eq, not_true_eq_false, not_false_eq_true, planIds, hasExt, cntFs, idxFs, clnFs, ovlFs, List.contains_cons, List.contains_nil, List.any_cons, List.any_nil, Nat.reduceBEq, Nat.reduceMul, Nat.reduceAdd, ↓reduceIte, dAppend, hk, hel, hm, if_pos, Nat.le_refl]
    · rw [List.map_append]; exact get_end'
    · have hne : k ≠ k' := fun e => by subst e; exact hd _ rfl
      exact get_old (by rw [List.getElem?_set_ne hne]; exact h)
theorem app_ov {S' : List Ob} {k : Nat} {fs : List (Int × ByteArray)} {f : Int × ByteArray} (h : S'[k]? = some (.row 2 ((fs ++ [f]).map encF))) : GV S' (.os k 0 (fs.length + 1) false) (fs ++ [f]) :=
  .inr ⟨k, by rw [List.length_append]; rfl, h⟩
/-- Rows that are not violations stay where they are. -/
def KeepR (S T : List Ob) : Prop := ∀ (k sz : Nat) (es : List (List D)), sz ≠ 2 → S[k]? = some (.row sz es) → T[k]? = some (.row sz es)
theorem app_g {S : List Ob} {d : D} {fs : List (Int × ByteArray)} (h : GV S d fs) (hl : fs.length ≤ 1000) (e : Int) (s : ByteArray) :
    ∃ S', dAppend Tryz.prog S 50 50 d (.sl 2 [[.int .i64 e, .str s]] true) = some (.os S.length 0 (fs.length + 1) false, S') ∧ GV S' (.os S.length 0 (fs.length + 1) false) (fs ++ [(e, s)]) ∧ KeepR S S' ∧ (∀ k o, (∀ n, d = .os k 0 n false → False) → S[k]? = some o → S'[k]? = some o) := by
  obtain ⟨S', h1, h2, h3⟩ := app_fault h hl e s
  refine ⟨S', h1, app_ov h2, fun k sz es hz hs => h3 k _ (fun n e => ?_) hs, h3⟩
  subst e
  rcases h with ⟨g1, -⟩ | ⟨k', g1, g2⟩
  · cases g1
  · cases g1
    rw [hs] at g2
    injection g2 with g2
    injection g2 with g2 _
    exact hz g2
def ifF (b : Bool) (e : Int) (s : ByteArray) : List (Int × ByteArray) := if b = true then [(e, s)] else []
theorem ifF_len (b : Bool) (e : Int) (s : ByteArray) : (ifF b e s).length ≤ 1 := by unfold ifF; split <;> simp
/-- The first place where something holds, or -1. -/
def fdx {α : Type} (p : α → Bool) : Nat → List α → Int
  | _, [] => -1
  | i, x :: l => if p x = true then (i : Int) else fdx p (i + 1) l
theorem fdx_any {α : Type} (p : α → Bool) : ∀ (l : List α) (i : Nat), decide (0 ≤ fdx p i l) = l.any p
  | [], i => rfl
  | x :: l, i => by
    unfold fdx
    rw [List.any_cons, ← fdx_any p l (i + 1)]
    cases h : p x
    · rw [if_neg (by simp), Bool.false_or]
    · rw [if_pos rfl, Bool.true_or]; exact decide_eq_true (by omega)
/-- An append of a violation, as a function of its text. -/
theorem app_f {S : List Ob} {d : D} {fs : List (Int × ByteArray)} (h : GV S d fs) (hl : fs.length ≤ 1000) (e : Int) :
    ∃ f : ByteArray → List Ob, ∀ s, dAppend Tryz.prog S 50 50 d (.sl 2 [[.int .i64 e, .str s]] true) = some (.os S.length 0 (fs.length + 1) false, f s) ∧ GV (f s) (.os S.length 0 (fs.length + 1) false) (fs ++ [(e, s)]) := by
  have key : ∀ s, ∃ S', dAppend Tryz.prog S 50 50 d (.sl 2 [[.int .i64 e, .str s]] true) = some (.os S.length 0 (fs.length + 1) false, S') ∧ GV S' (.os S.length 0 (fs.length + 1) false) (fs ++ [(e, s)]) := fun s => by
    obtain ⟨S', h1, h2, -⟩ := app_fault h hl e s
    exact ⟨S', h1, app_ov h2⟩
  exact ⟨fun s => Classical.choose (key s), fun s => Classical.choose_spec (key s)⟩
end Go.Proofs.YtlamgjbngblefaaGreatDoor.Dm.Gw
