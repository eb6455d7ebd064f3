/-
  The machine at the look at accounts.
-/
import Derived.Test.YtgfbblpkddahbaaDoorMoS
namespace Go.Proofs.YtgfbblpkddahbaaDoor.Dm
open Go
set_option linter.unusedSimpArgs false

theorem due_size : (ByteArray.mk #[100, 117, 101, 32]).size = 4 := rfl
set_option maxHeartbeats 400000 in
set_option maxRecDepth 100000 in
theorem pre_d {n : Nat} {nm : ByteArray} {S : List Ob} : WO (dcall E (n + 1) 94 [.str nm, .str (ByteArray.mk #[100, 117, 101, 32])] S) fun d T => d = .bool (isDue nm) ∧ T = S := by
  refine wo_dcall Tryd.func94 rfl (by decide) rfl 18 rfl (fun a hal ha => ?_)
  have h0 : a[0]? = some (.str nm) := ha 0 (by simp)
  have h1 : a[1]? = some (.str (ByteArray.mk #[100, 117, 101, 32])) := ha 1 (by simp)
  clear ha
  unfold isDue
  by_cases h : 4 ≤ nm.size
  · have h' : (4 : Int) ≤ nm.size := by omega
    simp (maxSteps := 1000000) (disch := omega) only [push_cast, ↓wc_seq, ↓wc_block, ↓wc_scope, ↓wc_condL, ↓wc_region, ↓wr_cons, ↓wr_consgL, ↓wr_nil, ↓wo_pickL, ↓wo_callf, ↓wc_exit, ↓wc_ret, ↓wc_skip, ↓wc_wl, wo_some, wo_none, wo_ite, opQ_eq, seqQ_normal, seqQ_exit, seqQ_ret, blockQ_normal, blockQ_exit, blockQ_ret, iterQ_normal, iterQ_exit, iterQ_ret, retQ_normal, retQ_ret, retQ_exit, pickC_true, pickC_false, pickO_true, pickO_false, gstep_tt, gstep_ff, gstep_tf, gstep_ft, gstep_skip, int_bne, int_beq, decide_not, Nat.reduceAdd, Nat.reduceMul, Nat.reduceSub, Nat.reducePow, Nat.reduceLT, Nat.reduceLeDiff, Nat.reduceEqDiff, Int.reduceToNat, Int.reduceAdd, Int.reduceSub, Int.reduceNeg, Int.reduceMul, Int.reduceLT, Int.reduceLE, Int.reduceEq, le_max, ↓wo_build, ↓wo_buildSlice, evParts, ↓reduceIte, hasExt, cntFs, ovlFs, List.contains_cons, List.contains_nil, List.any_cons, List.any_nil, Nat.reduceBEq, setC, List.length_set, decide_eq_true_eq, decide_eq_false_iff_not, true_implies, false_implies, forall_const, reduceCtorEq, eq_self, Int.natCast_nonneg, Int.toNat_natCast, Int.ofNat_lt, D.int.injEq, Option.some.injEq, Nat.zero_add, Nat.add_zero, bne_iff_ne, bne_eq_false_iff_eq, beq_iff_eq, beq_eq_false_iff_ne, gt_iff_lt, ne_eq, not_true_eq_false, not_false_eq_true, hal, h0, h1, h, h', due_size, ge_iff_le, decide_true, Bool.true_and, Int.cast_ofNat_Int, Tryd.f94]
  · have h' : ¬ (4 : Int) ≤ nm.size := by omega
    simp (maxSteps := 1000000) (disch := omega) only [push_cast, ↓wc_seq, ↓wc_block, ↓wc_scope, ↓wc_condL, ↓wc_region, ↓wr_cons, ↓wr_consgL, ↓wr_nil, ↓wo_pickL, ↓wo_callf, ↓wc_exit, ↓wc_ret, ↓wc_skip, ↓wc_wl, wo_some, wo_none, wo_ite, opQ_eq, seqQ_normal, seqQ_exit, seqQ_ret, blockQ_normal, blockQ_exit, blockQ_ret, iterQ_normal, iterQ_exit, iterQ_ret, retQ_normal, retQ_ret, retQ_exit, pickC_true, pickC_false, pickO_true, pickO_false, gstep_tt, gstep_ff, gstep_tf, gstep_ft, gstep_skip, int_bne, int_beq, decide_not, Nat.reduceAdd, Nat.reduceMul, Nat.reduceSub, Nat.reducePow, Nat.reduceLT, Nat.reduceLeDiff, Nat.reduceEqDiff, Int.reduceToNat, Int.reduceAdd, Int.reduceSub, Int.reduceNeg, Int.reduceMul, Int.reduceLT, Int.reduceLE, Int.reduceEq, le_max, ↓wo_build, ↓wo_buildSlice, evParts, ↓reduceIte, hasExt, cntFs, ovlFs, List.contains_cons, List.contains_nil, List.any_cons, List.any_nil, Nat.reduceBEq, setC, List.length_set, decide_eq_true_eq, decide_eq_false_iff_not, true_implies, false_implies, forall_const, reduceCtorEq, eq_self, Int.natCast_nonneg, Int.toNat_natCast, Int.ofNat_lt, D.int.injEq, Option.some.injEq, Nat.zero_add, Nat.add_zero, bne_iff_ne, bne_eq_false_iff_eq, beq_iff_eq, beq_eq_false_iff_ne, gt_iff_lt, ne_eq, not_true_eq_false, not_false_eq_true, hal, h0, h1, h, h', due_size, ge_iff_le, decide_false, Bool.false_and, Int.cast_ofNat_Int, Tryd.f94]
set_option maxHeartbeats 400000 in
set_option maxRecDepth 100000 in
theorem pre_c (nm : ByteArray) (st : Bool) (S : List Ob) : callD E (dcall E 998) st S 42 [.str nm, .str (ByteArray.mk #[100, 117, 101, 32])] = some (.bool (isDue nm), S) := by
  have c1 : ∀ st S, callD E (dcall E 997) st S 94 [.str nm, .str (ByteArray.mk #[100, 117, 101, 32])] = some (.bool (isDue nm), S) := fun st S => callD_pure rfl rfl (eq_of_wo pre_d) rfl
  have : WO (dcall E 998 42 [.str nm, .str (ByteArray.mk #[100, 117, 101, 32])] []) fun d T => d = .bool (isDue nm) ∧ T = [] := by
    refine wo_dcall Tryd.func42 rfl (by decide) rfl 8 rfl (fun a hal ha => ?_)
    have h0 : a[0]? = some (.str nm) := ha 0 (by simp)
    have h1 : a[1]? = some (.str (ByteArray.mk #[100, 117, 101, 32])) := ha 1 (by simp)
    clear ha
    simp (maxSteps := 1000000) (disch := omega) only [push_cast, ↓wc_seq, ↓wc_block, ↓wc_scope, ↓wc_condL, ↓wc_region, ↓wr_cons, ↓wr_consgL, ↓wr_nil, ↓wo_pickL, ↓wo_callf, ↓wc_exit, ↓wc_ret, ↓wc_skip, ↓wc_wl, wo_some, wo_none, wo_ite, opQ_eq, seqQ_normal, seqQ_exit, seqQ_ret, blockQ_normal, blockQ_exit, blockQ_ret, iterQ_normal, iterQ_exit, iterQ_ret, retQ_normal, retQ_ret, retQ_exit, pickC_true, pickC_false, pickO_true, pickO_false, gstep_tt, gstep_ff, gstep_tf, gstep_ft, gstep_skip, int_bne, int_beq, decide_not, Nat.reduceAdd, Nat.reduceMul, Nat.reduceSub, Nat.reducePow, Nat.reduceLT, Nat.reduceLeDiff, Nat.reduceEqDiff, Int.reduceToNat, Int.reduceAdd, Int.reduceSub, Int.reduceNeg, Int.reduceMul, Int.reduceLT, Int.reduceLE, Int.reduceEq, le_max, ↓wo_build, ↓wo_buildSlice, evParts, ↓reduceIte, hasExt, cntFs, ovlFs, List.contains_cons, List.contains_nil, List.any_cons, List.any_nil, Nat.reduceBEq, setC, List.length_set, decide_eq_true_eq, decide_eq_false_iff_not, true_implies, false_implies, forall_const, reduceCtorEq, eq_self, Int.natCast_nonneg, Int.toNat_natCast, Int.ofNat_lt, D.int.injEq, Option.some.injEq, Nat.zero_add, Nat.add_zero, bne_iff_ne, bne_eq_false_iff_eq, beq_iff_eq, beq_eq_false_iff_ne, gt_iff_lt, ne_eq, not_true_eq_false, not_false_eq_true, hal, h0, h1, c1, Tryd.f42]
  exact callD_pure rfl rfl (eq_of_wo this) rfl

theorem set_same' {α : Type} {l : List α} {k : Nat} {x y : α} (h : l[k]? = some y) : (l.set k x)[k]? = some x := by
  rw [List.getElem?_set_self ((List.getElem?_eq_some_iff.1 h).1)]
def Cell (S : List Ob) (o : Nat) (fs : List (Int × ByteArray)) : Prop := ∃ d, S[o]? = some (.row 1 [[d]]) ∧ GV S d fs ∧ (∀ n, d = .os o 0 n false → False)
theorem Cell.push {S : List Ob} {o : Nat} {fs : List (Int × ByteArray)} (h : Cell S o fs) (x : Ob) : Cell (S ++ [x]) o fs := by
  obtain ⟨d, h1, h2, h3⟩ := h
  exact ⟨d, get_old h1, h2.push x, h3⟩
set_option maxHeartbeats 400000 in
set_option maxRecDepth 100000 in
theorem add_d {n : Nat} {b : Bool} {s : ByteArray} {o : Nat} {S : List Ob} {fs : List (Int × ByteArray)} (h : Cell S o fs) (hl : fs.length ≤ 1000) :
    WO (dcall E (n + 1) 41 [.bool b, .str s, .loc o 0 0] S) fun r T => r = .tup [] ∧ Cell T o (fs ++ if b = true then [(36, s)] else []) := by
  obtain ⟨d, hd, ho, hne⟩ := h
  obtain ⟨S', ha', hk, hkeep⟩ := app_fault ho hl 36 s
  have ho' := hkeep o _ hne hd
  have hlt : o < S.length := (List.getElem?_eq_some_iff.1 hd).1
  refine wo_dcall Tryd.func41 rfl (by decide) rfl 11 rfl (fun a hal ha => ?_)
  have h0 : a[0]? = some (.bool b) := ha 0 (by simp)
  have h1 : a[1]? = some (.str s) := ha 1 (by simp)
  have h2 : a[2]? = some (.loc o 0 0) := ha 2 (by simp)
  clear ha
  cases b
  · simp (maxSteps := 1000000) (disch := omega) only [push_cast, ↓wc_seq, ↓wc_block, ↓wc_scope, ↓wc_condL, ↓wc_region, ↓wr_cons, ↓wr_consgL, ↓wr_nil, ↓wo_pickL, ↓wo_callf, ↓wc_exit, ↓wc_ret, ↓wc_skip, ↓wc_wl, wo_some, wo_none, wo_ite, opQ_eq, seqQ_normal, seqQ_exit, seqQ_ret, blockQ_normal, blockQ_exit, blockQ_ret, iterQ_normal, iterQ_exit, iterQ_ret, retQ_normal, retQ_ret, retQ_exit, pickC_true, pickC_false, pickO_true, pickO_false, gstep_tt, gstep_ff, gstep_tf, gstep_ft, gstep_skip, int_bne, int_beq, decide_not, Nat.reduceAdd, Nat.reduceMul, Nat.reduceSub, Nat.reducePow, Nat.reduceLT, Nat.reduceLeDiff, Nat.reduceEqDiff, Int.reduceToNat, Int.reduceAdd, Int.reduceSub, Int.reduceNeg, Int.reduceMul, Int.reduceLT, Int.reduceLE, Int.reduceEq, le_max, ↓wo_build, ↓wo_buildSlice, evParts, ↓reduceIte, hasExt, cntFs, ovlFs, List.contains_cons, List.contains_nil, List.any_cons, List.any_nil, Nat.reduceBEq, setC, List.length_set, decide_eq_true_eq, decide_eq_false_iff_not, true_implies, false_implies, forall_const, reduceCtorEq, eq_self, Int.natCast_nonneg, Int.toNat_natCast, Int.ofNat_lt, D.int.injEq, Option.some.injEq, Nat.zero_add, Nat.add_zero, bne_iff_ne, bne_eq_false_iff_eq, beq_iff_eq, beq_eq_false_iff_ne, gt_iff_lt, ne_eq, not_true_eq_false, not_false_eq_true, hal, h0, h1, h2, Tryd.f41]
    exact ⟨d, hd, ho, hne⟩
  · simp (maxSteps := 1000000) (disch := omega) only [push_cast, ↓wc_seq, ↓wc_block, ↓wc_scope, ↓wc_condL, ↓wc_region, ↓wr_cons, ↓wr_consgL, ↓wr_nil, ↓wo_pickL, ↓wo_callf, ↓wc_exit, ↓wc_ret, ↓wc_skip, ↓wc_wl, wo_some, wo_none, wo_ite, opQ_eq, seqQ_normal, seqQ_exit, seqQ_ret, blockQ_normal, blockQ_exit, blockQ_ret, iterQ_normal, iterQ_exit, iterQ_ret, retQ_normal, retQ_ret, retQ_exit, pickC_true, pickC_false, pickO_true, pickO_false, gstep_tt, gstep_ff, gstep_tf, gstep_ft, gstep_skip, int_bne, int_beq, decide_not, Nat.reduceAdd, Nat.reduceMul, Nat.reduceSub, Nat.reducePow, Nat.reduceLT, Nat.reduceLeDiff, Nat.reduceEqDiff, Int.reduceToNat, Int.reduceAdd, Int.reduceSub, Int.reduceNeg, Int.reduceMul, Int.reduceLT, Int.reduceLE, Int.reduceEq, le_max, ↓wo_build, ↓wo_buildSlice, evParts, ↓reduceIte, hasExt, cntFs, ovlFs, List.contains_cons, List.contains_nil, List.any_cons, List.any_nil, Nat.reduceBEq, setC, List.length_set, decide_eq_true_eq, decide_eq_false_iff_not, true_implies, false_implies, forall_const, reduceCtorEq, eq_self, Int.natCast_nonneg, Int.toNat_natCast, Int.ofNat_lt, D.int.injEq, Option.some.injEq, Nat.zero_add, Nat.add_zero, bne_iff_ne, bne_eq_false_iff_eq, beq_iff_eq, beq_eq_false_iff_ne, gt_iff_lt, ne_eq, not_true_eq_false, not_false_eq_true, hal, h0, h1, h2, hd, ha', ho', Tryd.f41]
    have hn : o ≠ S.length := by omega
    exact ⟨_, set_same' ho', .inr ⟨S.length, by rw [List.length_append]; rfl, by rw [List.getElem?_set_ne hn]; exact hk⟩, fun n e => by injection e with e1; omega⟩
theorem add_c {b : Bool} {s : ByteArray} {o : Nat} {S : List Ob} {fs : List (Int × ByteArray)} (h : Cell S o fs) (hl : fs.length ≤ 1000) :
    ∃ T, callD E (dcall E 998) false S 41 [.bool b, .str s, .loc o 0 0] = some (.tup [], T) ∧ Cell T o (fs ++ if b = true then [(36, s)] else []) := by
  obtain ⟨r, T, hT, rfl, hc⟩ := add_d (n := 997) (b := b) (s := s) h hl
  exact ⟨T, (callD_own rfl (by simp [pureL, D.pure])).trans hT, hc⟩
end Go.Proofs.YtgfbblpkddahbaaDoor.Dm
