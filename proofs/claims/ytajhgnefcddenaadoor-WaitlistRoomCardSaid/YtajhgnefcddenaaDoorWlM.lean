/-
  A new waiting list: one request joins, none is served by a nil inventory.
-/
import Derived.Test.YtajhgnefcddenaaDoorWlO
import Derived.Test.YtajhgnefcddenaaDoorWpt
namespace Go.Proofs.YtajhgnefcddenaaDoor.Dm
open Go Gw
set_option linter.unusedSimpArgs false
set_option linter.unusedSimpArgs false

def fId : D := .func 25 [] []
def fOrd : D := .func 26 [] []
/-- A list that lies at k. -/
def LiAt (S : List Ob) (k : Nat) (items : D) : Prop := S[k]? = some (.row 4 [[items, fId, fOrd, .bool true]])
theorem LiAt.app {S : List Ob} {k : Nat} {d : D} (h : LiAt S k d) (J : List Ob) : LiAt (S ++ J) k d := by
  unfold LiAt at *
  rw [List.getElem?_append_left (lt_of_get h)]; exact h
section
variable {n : Nat} {S : List Ob} {st : Bool}
theorem WNew_c (hn : 1 ≤ n) : ∃ T, callD E (dcall E n) st S 12 [] = some (.loc S.length 0 0, T) ∧ LiAt T S.length .nils ∧ ∃ o, T = S ++ [o] := by
  obtain ⟨m, rfl⟩ : ∃ m, n = m + 1 := ⟨n - 1, by omega⟩
  have : WO (dcall E (m + 1) 12 [] S) fun d T => d = .loc S.length 0 0 ∧ T = S ++ [.row 4 [[.nils, fId, fOrd, .bool true]]] := by
    refine wo_dcall Tryd.func12 rfl (by decide) rfl 13 rfl (fun a hal ha => ?_)
    clear ha
    unfold fId fOrd
    simp (maxSteps := 1000000) (disch := omega) only [push_cast, ↓wc_seq, ↓wc_block, ↓wc_scope, ↓wc_condL, ↓wc_region, ↓wr_cons, ↓wr_consgL, ↓wr_nil, ↓wo_pickL, ↓wo_callf, ↓wc_exit, ↓wc_ret, ↓wc_skip, ↓wc_wl, wo_some, wo_none, wo_ite, opQ_eq, seqQ_normal, seqQ_exit, seqQ_ret, blockQ_normal, blockQ_exit, blockQ_ret, iterQ_normal, iterQ_exit, iterQ_ret, retQ_normal, retQ_ret, retQ_exit, pickC_true, pickC_false, pickO_true, pickO_false, gstep_tt, gstep_ff, gstep_tf, gstep_ft, gstep_skip, int_bne, int_beq, decide_not, Nat.reduceAdd, Nat.reduceMul, Nat.reduceSub, Nat.reducePow, Nat.reduceLT, Nat.reduceLeDiff, Nat.reduceEqDiff, Int.reduceToNat, Int.reduceAdd, Int.reduceSub, Int.reduceNeg, Int.reduceMul, Int.reduceLT, Int.reduceLE, Int.reduceEq, le_max, ↓wo_build, ↓wo_buildSlice, evParts, ↓reduceIte, planIds, hasExt, cntFs, idxFs, clnFs, ovlFs, List.contains_cons, List.contains_nil, List.any_cons, List.any_nil, Nat.reduceBEq, setC, List.length_set, decide_eq_true_eq, decide_eq_false_iff_not, true_implies, false_implies, forall_const, reduceCtorEq, eq_self, Int.natCast_nonneg, Int.toNat_natCast, Int.ofNat_lt, D.int.injEq, Option.some.injEq, Nat.zero_add, Nat.add_zero, bne_iff_ne, bne_eq_false_iff_eq, beq_iff_eq, beq_eq_false_iff_ne, gt_iff_lt, ne_eq, not_true_eq_false, not_false_eq_true, hal, get_end, set_end, Tryd.f12]
  obtain ⟨d, T, ho, rfl, rfl⟩ := this
  exact ⟨_, (callD_genw rfl).trans ho, get_end, _, rfl⟩
theorem Clone0 {n : Nat} (hn : 1 ≤ n) (st : Bool) (S : List Ob) : callD E (dcall E n) st S 24 [.nils] = some (.nils, S) := by
  obtain ⟨m, rfl⟩ : ∃ m, n = m + 1 := ⟨n - 1, by omega⟩
  have : WO (dcall E (m + 1) 24 [.nils] S) fun d T => d = .nils ∧ T = S := by
    have e0 : dEq Tryd.prog 10000 31 .nils .nils = some true := by rw [show (10000 : Nat) = 9999 + 1 from rfl]; simp only [dEq, Tryd.underlying31]
    refine wo_dcall Tryd.func24 rfl (by decide) rfl 8 rfl (fun a hal ha => ?_)
    have h0 : a[0]? = some (.nils) := ha 0 (by simp)
    clear ha
    simp (maxSteps := 1000000) (disch := omega) only [push_cast, ↓wc_seq, ↓wc_block, ↓wc_scope, ↓wc_condL, ↓wc_region, ↓wr_cons, ↓wr_consgL, ↓wr_nil, ↓wo_pickL, ↓wo_callf, ↓wc_exit, ↓wc_ret, ↓wc_skip, ↓wc_wl, wo_some, wo_none, wo_ite, opQ_eq, seqQ_normal, seqQ_exit, seqQ_ret, blockQ_normal, blockQ_exit, blockQ_ret, iterQ_normal, iterQ_exit, iterQ_ret, retQ_normal, retQ_ret, retQ_exit, pickC_true, pickC_false, pickO_true, pickO_false, gstep_tt, gstep_ff, gstep_tf, gstep_ft, gstep_skip, int_bne, int_beq, decide_not, Nat.reduceAdd, Nat.reduceMul, Nat.reduceSub, Nat.reducePow, Nat.reduceLT, Nat.reduceLeDiff, Nat.reduceEqDiff, Int.reduceToNat, Int.reduceAdd, Int.reduceSub, Int.reduceNeg, Int.reduceMul, Int.reduceLT, Int.reduceLE, Int.reduceEq, le_max, ↓wo_build, ↓wo_buildSlice, evParts, ↓reduceIte, planIds, hasExt, cntFs, idxFs, clnFs, ovlFs, List.contains_cons, List.contains_nil, List.any_cons, List.any_nil, Nat.reduceBEq, setC, List.length_set, decide_eq_true_eq, decide_eq_false_iff_not, true_implies, false_implies, forall_const, reduceCtorEq, eq_self, Int.natCast_nonneg, Int.toNat_natCast, Int.ofNat_lt, D.int.injEq, Option.some.injEq, Nat.zero_add, Nat.add_zero, bne_iff_ne, bne_eq_false_iff_eq, beq_iff_eq, beq_eq_false_iff_ne, gt_iff_lt, ne_eq, not_true_eq_false, not_false_eq_true, hal, h0, e0, Tryd.f24]
  obtain ⟨d, T, ho, rfl, rfl⟩ := this
  have := callD_ext (call := dcall E (m + 1)) (st := st) (J := []) (f := 24) rfl (by rw [List.append_nil]; exact ho)
  rw [List.append_nil] at this
  exact this
theorem IdxW0 {n : Nat} {f : D} (hn : 2 ≤ n) (S : List Ob) : WO (dcall E n 42 [.nils, f] S) fun d T => d = .int .i64 (-1) ∧ T = S := by
  obtain ⟨m, rfl⟩ : ∃ m, n = m + 1 := ⟨n - 1, by omega⟩
  refine wo_dcall Tryd.func42 rfl (by decide) rfl 19 rfl (fun a hal ha => ?_)
  have h0 : a[0]? = some (.nils) := ha 0 (by simp)
  have h1 : a[1]? = some (f) := ha 1 (by simp)
  clear ha
  simp (maxSteps := 1000000) (disch := omega) only [push_cast, ↓wc_seq, ↓wc_block, ↓wc_scope, ↓wc_condL, ↓wc_region, ↓wr_cons, ↓wr_consgL, ↓wr_nil, ↓wo_pickL, ↓wo_callf, ↓wc_exit, ↓wc_ret, ↓wc_skip, ↓wc_wl, wo_some, wo_none, wo_ite, opQ_eq, seqQ_normal, seqQ_exit, seqQ_ret, blockQ_normal, blockQ_exit, blockQ_ret, iterQ_normal, iterQ_exit, iterQ_ret, retQ_normal, retQ_ret, retQ_exit, pickC_true, pickC_false, pickO_true, pickO_false, gstep_tt, gstep_ff, gstep_tf, gstep_ft, gstep_skip, int_bne, int_beq, decide_not, Nat.reduceAdd, Nat.reduceMul, Nat.reduceSub, Nat.reducePow, Nat.reduceLT, Nat.reduceLeDiff, Nat.reduceEqDiff, Int.reduceToNat, Int.reduceAdd, Int.reduceSub, Int.reduceNeg, Int.reduceMul, Int.reduceLT, Int.reduceLE, Int.reduceEq, le_max, ↓wo_build, ↓wo_buildSlice, evParts, ↓reduceIte, planIds, hasExt, cntFs, idxFs, clnFs, ovlFs, List.contains_cons, List.contains_nil, List.any_cons, List.any_nil, Nat.reduceBEq, setC, List.length_set, decide_eq_true_eq, decide_eq_false_iff_not, true_implies, false_implies, forall_const, reduceCtorEq, eq_self, Int.natCast_nonneg, Int.toNat_natCast, Int.ofNat_lt, D.int.injEq, Option.some.injEq, Nat.zero_add, Nat.add_zero, bne_iff_ne, bne_eq_false_iff_eq, beq_iff_eq, beq_eq_false_iff_ne, gt_iff_lt, ne_eq, not_true_eq_false, not_false_eq_true, hal, h0, h1]
  refine wl_loop (fun i a T => T = S ∧ a.length = 19 ∧ a[7]? = some (.int .i64 0) ∧ a[8]? = some (.int .i64 0)) 0 ?_ (by omega) ?_
  · simp (maxSteps := 1000000) (disch := omega) only [push_cast, ↓wc_seq, ↓wc_block, ↓wc_scope, ↓wc_condL, ↓wc_region, ↓wr_cons, ↓wr_consgL, ↓wr_nil, ↓wo_pickL, ↓wo_callf, ↓wc_exit, ↓wc_ret, ↓wc_skip, ↓wc_wl, wo_some, wo_none, wo_ite, opQ_eq, seqQ_normal, seqQ_exit, seqQ_ret, blockQ_normal, blockQ_exit, blockQ_ret, iterQ_normal, iterQ_exit, iterQ_ret, retQ_normal, retQ_ret, retQ_exit, pickC_true, pickC_false, pickO_true, pickO_false, gstep_tt, gstep_ff, gstep_tf, gstep_ft, gstep_skip, int_bne, int_beq, decide_not, Nat.reduceAdd, Nat.reduceMul, Nat.reduceSub, Nat.reducePow, Nat.reduceLT, Nat.reduceLeDiff, Nat.reduceEqDiff, Int.reduceToNat, Int.reduceAdd, Int.reduceSub, Int.reduceNeg, Int.reduceMul, Int.reduceLT, Int.reduceLE, Int.reduceEq, le_max, ↓wo_build, ↓wo_buildSlice, evParts, ↓reduceIte, planIds, hasExt, cntFs, idxFs, clnFs, ovlFs, List.contains_cons, List.contains_nil, List.any_cons, List.any_nil, Nat.reduceBEq, setC, List.length_set, decide_eq_true_eq, decide_eq_false_iff_not, true_implies, false_implies, forall_const, reduceCtorEq, eq_self, Int.natCast_nonneg, Int.toNat_natCast, Int.ofNat_lt, D.int.injEq, Option.some.injEq, Nat.zero_add, Nat.add_zero, bne_iff_ne, bne_eq_false_iff_eq, beq_iff_eq, beq_eq_false_iff_ne, gt_iff_lt, ne_eq, not_true_eq_false, not_false_eq_true, hal, h0, h1]
  clear hal h0 h1 a
  rintro i a T hi ⟨rfl, hal, h7, h8⟩
  simp (maxSteps := 1000000) (disch := omega) only [push_cast, ↓wc_seq, ↓wc_block, ↓wc_scope, ↓wc_condL, ↓wc_region, ↓wr_cons, ↓wr_consgL, ↓wr_nil, ↓wo_pickL, ↓wo_callf, ↓wc_exit, ↓wc_ret, ↓wc_skip, ↓wc_wl, wo_some, wo_none, wo_ite, opQ_eq, seqQ_normal, seqQ_exit, seqQ_ret, blockQ_normal, blockQ_exit, blockQ_ret, iterQ_normal, iterQ_exit, iterQ_ret, retQ_normal, retQ_ret, retQ_exit, pickC_true, pickC_false, pickO_true, pickO_false, gstep_tt, gstep_ff, gstep_tf, gstep_ft, gstep_skip, int_bne, int_beq, decide_not, Nat.reduceAdd, Nat.reduceMul, Nat.reduceSub, Nat.reducePow, Nat.reduceLT, Nat.reduceLeDiff, Nat.reduceEqDiff, Int.reduceToNat, Int.reduceAdd, Int.reduceSub, Int.reduceNeg, Int.reduceMul, Int.reduceLT, Int.reduceLE, Int.reduceEq, le_max, ↓wo_build, ↓wo_buildSlice, evParts, ↓reduceIte, planIds, hasExt, cntFs, idxFs, clnFs, ovlFs, List.contains_cons, List.contains_nil, List.any_cons, List.any_nil, Nat.reduceBEq, setC, List.length_set, decide_eq_true_eq, decide_eq_false_iff_not, true_implies, false_implies, forall_const, reduceCtorEq, eq_self, Int.natCast_nonneg, Int.toNat_natCast, Int.ofNat_lt, D.int.injEq, Option.some.injEq, Nat.zero_add, Nat.add_zero, bne_iff_ne, bne_eq_false_iff_eq, beq_iff_eq, beq_eq_false_iff_ne, gt_iff_lt, ne_eq, not_true_eq_false, not_false_eq_true, hal, h7, h8, Int.lt_irrefl, Tryd.f42]
theorem FindN {k : Nat} {i : Int} (hn : 3 ≤ n) (h : LiAt S k .nils) : callD E (dcall E n) st S 18 [.loc k 0 0, .int .i64 i] = some (.int .i64 (-1), S) := by
  obtain ⟨m, rfl⟩ : ∃ m, n = m + 1 := ⟨n - 1, by omega⟩
  have : WO (dcall E (m + 1) 18 [.loc k 0 0, .int .i64 i] S) fun d T => ∃ J, d = .int .i64 (-1) ∧ T = S ++ J := by
    have h := h.app [.row 1 [[.loc k 0 0]], .row 1 [[.int .i64 i]]]
    unfold LiAt at h
    obtain ⟨_, _, c0, rfl, rfl⟩ := IdxW0 (n := m) (f := .func 43 [] [.loc S.length 0 0, .loc (S.length + 1) 0 0]) (by omega) (S ++ [.row 1 [[.loc k 0 0]], .row 1 [[.int .i64 i]]])
    have c1 := (callD_own (call := dcall E m) rfl rfl).trans c0
    have g0 : ∀ x y : Ob, (S ++ [x, y])[S.length]? = some x := fun x y => by simp
    refine wo_dcall Tryd.func18 rfl (by decide) rfl 11 rfl (fun a hal ha => ?_)
    have h0 : a[0]? = some (.loc k 0 0) := ha 0 (by simp)
    have h1 : a[1]? = some (.int .i64 i) := ha 1 (by simp)
    clear ha
    simp (maxSteps := 1000000) (disch := omega) only [push_cast, ↓wc_seq, ↓wc_block, ↓wc_scope, ↓wc_condL, ↓wc_region, ↓wr_cons, ↓wr_consgL, ↓wr_nil, ↓wo_pickL, ↓wo_callf, ↓wc_exit, ↓wc_ret, ↓wc_skip, ↓wc_wl, wo_some, wo_none, wo_ite, opQ_eq, seqQ_normal, seqQ_exit, seqQ_ret, blockQ_normal, blockQ_exit, blockQ_ret, iterQ_normal, iterQ_exit, iterQ_ret, retQ_normal, retQ_ret, retQ_exit, pickC_true, pickC_false, pickO_true, pickO_false, gstep_tt, gstep_ff, gstep_tf, gstep_ft, gstep_skip, int_bne, int_beq, decide_not, Nat.reduceAdd, Nat.reduceMul, Nat.reduceSub, Nat.reducePow, Nat.reduceLT, Nat.reduceLeDiff, Nat.reduceEqDiff, Int.reduceToNat, Int.reduceAdd, Int.reduceSub, Int.reduceNeg, Int.reduceMul, Int.reduceLT, Int.reduceLE, Int.reduceEq, le_max, ↓wo_build, ↓wo_buildSlice, evParts, ↓reduceIte, planIds, hasExt, cntFs, idxFs, clnFs, ovlFs, List.contains_cons, List.contains_nil, List.any_cons, List.any_nil, Nat.reduceBEq, setC, List.length_set, decide_eq_true_eq, decide_eq_false_iff_not, true_implies, false_implies, forall_const, reduceCtorEq, eq_self, Int.natCast_nonneg, Int.toNat_natCast, Int.ofNat_lt, D.int.injEq, Option.some.injEq, Nat.zero_add, Nat.add_zero, bne_iff_ne, bne_eq_false_iff_eq, beq_iff_eq, beq_eq_false_iff_ne, gt_iff_lt, ne_eq, not_true_eq_false, not_false_eq_true, hal, h0, h1, List.append_assoc, List.cons_append, List.nil_append, List.length_append, List.length_cons, List.length_nil, g0, h, c1, Tryd.f18]
    exact ⟨_, rfl⟩
  obtain ⟨d, T, ho, J, rfl, rfl⟩ := this
  exact callD_obsJ rfl rfl ho rfl
theorem BinN {x : Wt} (hn : 2 ≤ n) : callD E (dcall E n) st S 48 [.nils, .agg x.enc, fOrd] = some (.tup [.int .i64 0, .bool false], S) := by
  obtain ⟨m, rfl⟩ : ∃ m, n = m + 1 := ⟨n - 1, by omega⟩
  have : WO (dcall E (m + 1) 48 [.nils, .agg x.enc, fOrd] []) fun d T => d = .tup [.int .i64 0, .bool false] := by
    refine wo_dcall Tryd.func48 rfl (by decide) rfl 49 rfl (fun a hal ha => ?_)
    have h0 : a[0]? = some (.nils) := ha 0 (by simp)
    have h1 : a[1]? = some (.agg x.enc) := ha 1 (by simp)
    have h2 : a[2]? = some (fOrd) := ha 2 (by simp)
    clear ha
    simp only [Wt.enc] at h1
    simp (maxSteps := 1000000) (disch := omega) only [push_cast, ↓wc_seq, ↓wc_block, ↓wc_scope, ↓wc_condL, ↓wc_region, ↓wr_cons, ↓wr_consgL, ↓wr_nil, ↓wo_pickL, ↓wo_callf, ↓wc_exit, ↓wc_ret, ↓wc_skip, ↓wc_wl, wo_some, wo_none, wo_ite, opQ_eq, seqQ_normal, seqQ_exit, seqQ_ret, blockQ_normal, blockQ_exit, blockQ_ret, iterQ_normal, iterQ_exit, iterQ_ret, retQ_normal, retQ_ret, retQ_exit, pickC_true, pickC_false, pickO_true, pickO_false, gstep_tt, gstep_ff, gstep_tf, gstep_ft, gstep_skip, int_bne, int_beq, decide_not, Nat.reduceAdd, Nat.reduceMul, Nat.reduceSub, Nat.reducePow, Nat.reduceLT, Nat.reduceLeDiff, Nat.reduceEqDiff, Int.reduceToNat, Int.reduceAdd, Int.reduceSub, Int.reduceNeg, Int.reduceMul, Int.reduceLT, Int.reduceLE, Int.reduceEq, le_max, ↓wo_build, ↓wo_buildSlice, evParts, ↓reduceIte, planIds, hasExt, cntFs, idxFs, clnFs, ovlFs, List.contains_cons, List.contains_nil, List.any_cons, List.any_nil, Nat.reduceBEq, setC, List.length_set, decide_eq_true_eq, decide_eq_false_iff_not, true_implies, false_implies, forall_const, reduceCtorEq, eq_self, Int.natCast_nonneg, Int.toNat_natCast, Int.ofNat_lt, D.int.injEq, Option.some.injEq, Nat.zero_add, Nat.add_zero, bne_iff_ne, bne_eq_false_iff_eq, beq_iff_eq, beq_eq_false_iff_ne, gt_iff_lt, ne_eq, not_true_eq_false, not_false_eq_true, hal, h0, h1, h2, List.nil_append]
    refine wl_loop (fun i a T => T = [Ob.row 5 [x.enc]] ∧ a.length = 49 ∧ a[0]? = some (.nils) ∧ a[2]? = some (fOrd) ∧ a[8]? = some (.int .i64 0) ∧ a[9]? = some (.int .i64 0) ∧ a[10]? = some (.int .i64 0)) 0 ?_ (by omega) ?_
    · simp (maxSteps := 1000000) (disch := omega) only [push_cast, ↓wc_seq, ↓wc_block, ↓wc_scope, ↓wc_condL, ↓wc_region, ↓wr_cons, ↓wr_consgL, ↓wr_nil, ↓wo_pickL, ↓wo_callf, ↓wc_exit, ↓wc_ret, ↓wc_skip, ↓wc_wl, wo_some, wo_none, wo_ite, opQ_eq, seqQ_normal, seqQ_exit, seqQ_ret, blockQ_normal, blockQ_exit, blockQ_ret, iterQ_normal, iterQ_exit, iterQ_ret, retQ_normal, retQ_ret, retQ_exit, pickC_true, pickC_false, pickO_true, pickO_false, gstep_tt, gstep_ff, gstep_tf, gstep_ft, gstep_skip, int_bne, int_beq, decide_not, Nat.reduceAdd, Nat.reduceMul, Nat.reduceSub, Nat.reducePow, Nat.reduceLT, Nat.reduceLeDiff, Nat.reduceEqDiff, Int.reduceToNat, Int.reduceAdd, Int.reduceSub, Int.reduceNeg, Int.reduceMul, Int.reduceLT, Int.reduceLE, Int.reduceEq, le_max, ↓wo_build, ↓wo_buildSlice, evParts, ↓reduceIte, planIds, hasExt, cntFs, idxFs, clnFs, ovlFs, List.contains_cons, List.contains_nil, List.any_cons, List.any_nil, Nat.reduceBEq, setC, List.length_set, decide_eq_true_eq, decide_eq_false_iff_not, true_implies, false_implies, forall_const, reduceCtorEq, eq_self, Int.natCast_nonneg, Int.toNat_natCast, Int.ofNat_lt, D.int.injEq, Option.some.injEq, Nat.zero_add, Nat.add_zero, bne_iff_ne, bne_eq_false_iff_eq, beq_iff_eq, beq_eq_false_iff_ne, gt_iff_lt, ne_eq, not_true_eq_false, not_false_eq_true, hal, h0, h1, h2, Wt.enc]
    clear hal h0 h1 h2 a
    rintro i a T hi ⟨rfl, hal, h0, h2, h8, h9, h10⟩
    simp (maxSteps := 1000000) (disch := omega) only [push_cast, ↓wc_seq, ↓wc_block, ↓wc_scope, ↓wc_condL, ↓wc_region, ↓wr_cons, ↓wr_consgL, ↓wr_nil, ↓wo_pickL, ↓wo_callf, ↓wc_exit, ↓wc_ret, ↓wc_skip, ↓wc_wl, wo_some, wo_none, wo_ite, opQ_eq, seqQ_normal, seqQ_exit, seqQ_ret, blockQ_normal, blockQ_exit, blockQ_ret, iterQ_normal, iterQ_exit, iterQ_ret, retQ_normal, retQ_ret, retQ_exit, pickC_true, pickC_false, pickO_true, pickO_false, gstep_tt, gstep_ff, gstep_tf, gstep_ft, gstep_skip, int_bne, int_beq, decide_not, Nat.reduceAdd, Nat.reduceMul, Nat.reduceSub, Nat.reducePow, Nat.reduceLT, Nat.reduceLeDiff, Nat.reduceEqDiff, Int.reduceToNat, Int.reduceAdd, Int.reduceSub, Int.reduceNeg, Int.reduceMul, Int.reduceLT, Int.reduceLE, Int.reduceEq, le_max, ↓wo_build, ↓wo_buildSlice, evParts, ↓reduceIte, planIds, hasExt, cntFs, idxFs, clnFs, ovlFs, List.contains_cons, List.contains_nil, List.any_cons, List.any_nil, Nat.reduceBEq, setC, List.length_set, decide_eq_true_eq, decide_eq_false_iff_not, true_implies, false_implies, forall_const, reduceCtorEq, eq_self, Int.natCast_nonneg, Int.toNat_natCast, Int.ofNat_lt, D.int.injEq, Option.some.injEq, Nat.zero_add, Nat.add_zero, bne_iff_ne, bne_eq_false_iff_eq, beq_iff_eq, beq_eq_false_iff_ne, gt_iff_lt, ne_eq, not_true_eq_false, not_false_eq_true, hal, h0, h2, h8, h9, h10, Int.lt_irrefl, Tryd.f48]
  obtain ⟨d, T, ho, rfl⟩ := this
  exact callD_pure rfl (by simp [pureL_cons, pureL_nil, D.pure, Wt_pure, fOrd]) ho rfl
namespace Wl
theorem appW {s x : D} {es : List D} (hs : s = .nils ∨ s = .sl 5 [] true) (hx : srcOf S 5 x = some [es]) : dAppend Tryd.prog S 31 31 s x = some (.os S.length 0 1 false, S ++ [.row 5 [es]]) := by
  have hb : 1 * bytesT Tryd.prog 39 ≤ 140737488355328 := Nat.le_trans (Nat.mul_le_mul (Nat.le_refl 1) byW) (by decide)
  rw [Nat.one_mul] at hb
  have hm : (1 ≤ maxLen) = True := le_max (by omega)
  have hz : (D.agg zW).cells.length = 4 + 1 := rfl
  rcases hs with rfl | rfl
  · simp only [dAppend, if_true, elW, show sizeT Tryd.prog 39 = some (4 + 1) from szW, zeW, hz, hx, show srcOf S (4 + 1) .nils = some [] from rfl, List.length_cons, List.length_nil, Nat.zero_add, Nat.one_mul, hm, hb, and_self, Nat.succ_ne_zero, if_false, ↓reduceIte]
  · simp only [dAppend, if_true, elW, show sizeT Tryd.prog 39 = some (4 + 1) from szW, zeW, hz, hx, show srcOf S (4 + 1) (.sl 5 [] true) = some [] from rfl, List.length_cons, List.length_nil, Nat.zero_add, Nat.one_mul, hm, hb, and_self, Nat.succ_ne_zero, if_false, ↓reduceIte, List.nil_append]
theorem Insert_nil {m : Nat} {x : List D} {b : Bool} : WO (dcall E0 (m + 1) 49 [.nils, .int .i64 0, .sl 5 [x] b] S) fun d T => d = .os S.length 0 1 false ∧ T = S ++ [.row 5 [x]] := by
  refine wo_dcall Tryd.func49 rfl (by decide) rfl 95 rfl (fun a hal ha => ?_)
  have h0 : a[0]? = some (.nils) := ha 0 (by simp)
  have h1 : a[1]? = some (.int .i64 0) := ha 1 (by simp)
  have h2 : a[2]? = some (.sl 5 [x] b) := ha 2 (by simp)
  clear ha
  have ha := appW (S := S) (s := .nils) (x := .sl 5 [x] b) (.inl rfl) rfl
  simp (maxSteps := 1000000) (disch := omega) only [push_cast, ↓wc_seq, ↓wc_block, ↓wc_scope, ↓wc_condL, ↓wc_region, ↓wr_cons, ↓wr_consgL, ↓wr_nil, ↓wo_pickL, ↓wo_callf, ↓wc_exit, ↓wc_ret, ↓wc_skip, ↓wc_wl, wo_some, wo_none, wo_ite, opQ_eq, seqQ_normal, seqQ_exit, seqQ_ret, blockQ_normal, blockQ_exit, blockQ_ret, iterQ_normal, iterQ_exit, iterQ_ret, retQ_normal, retQ_ret, retQ_exit, pickC_true, pickC_false, pickO_true, pickO_false, gstep_tt, gstep_ff, gstep_tf, gstep_ft, gstep_skip, int_bne, int_beq, decide_not, Nat.reduceAdd, Nat.reduceMul, Nat.reduceSub, Nat.reducePow, Nat.reduceLT, Nat.reduceLeDiff, Nat.reduceEqDiff, Int.reduceToNat, Int.reduceAdd, Int.reduceSub, Int.reduceNeg, Int.reduceMul, Int.reduceLT, Int.reduceLE, Int.reduceEq, le_max, ↓wo_build, ↓wo_buildSlice, evParts, ↓reduceIte, planIds, hasExt, cntFs, idxFs, clnFs, ovlFs, List.contains_cons, List.contains_nil, List.any_cons, List.any_nil, Nat.reduceBEq, setC, List.length_set, decide_eq_true_eq, decide_eq_false_iff_not, true_implies, false_implies, forall_const, reduceCtorEq, eq_self, Int.natCast_nonneg, Int.toNat_natCast, Int.ofNat_lt, D.int.injEq, Option.some.injEq, Nat.zero_add, Nat.add_zero, bne_iff_ne, bne_eq_false_iff_eq, beq_iff_eq, beq_eq_false_iff_ne, gt_iff_lt, ne_eq, not_true_eq_false, not_false_eq_true, hal, h0, h1, h2, Int.lt_irrefl, wrap_ok, if_pos, if_neg, ha, Tryd.f49]
end Wl
theorem Insert_c {n : Nat} {st : Bool} {x : List D} {b : Bool} (hn : 1 ≤ n) : callD E (dcall E n) st S 49 [.nils, .int .i64 0, .sl 5 [x] b] = some (.os S.length 0 1 false, S ++ [.row 5 [x]]) := by
  obtain ⟨m, rfl⟩ : ∃ m, n = m + 1 := ⟨n - 1, by omega⟩
  obtain ⟨d, T, ho, rfl, rfl⟩ := Wl.Insert_nil (m := 99) (S := S) (x := x) (b := b)
  have e1 : E.prim 49 = some Wl.insP := rfl
  have e2 : dcall E (m + 1) 49 [.nils, .int .i64 0, .sl 5 [x] b] S = Wl.insP [.nils, .int .i64 0, .sl 5 [x] b] S := by simp only [dcall, e1, show E.mode 49 = .gen from rfl, reduceCtorEq, ↓reduceIte]
  rw [callD_genw rfl, e2]
  unfold Wl.insP
  have e3 : Wl.insQ [.nils, .int .i64 0, .sl 5 [x] b] S = none := rfl
  rw [e3]
  exact ho
/-- The list with one request. -/
def OneAt (S : List Ob) (k : Nat) (x : Wt) : Prop := ∃ q, LiAt S k (.os q 0 1 false) ∧ S[q]? = some (.row 5 [x.enc])
theorem OneAt.app {k : Nat} {x : Wt} (h : OneAt S k x) (J : List Ob) : OneAt (S ++ J) k x := by
  obtain ⟨q, h1, h2⟩ := h
  exact ⟨q, h1.app J, by rw [List.getElem?_append_left (lt_of_get h2)]; exact h2⟩
theorem elL : elemT Tryd.prog 22 = some 61 := by kernel_rfl
theorem szL : sizeT Tryd.prog 61 = some (3 + 1) := by kernel_rfl
theorem zeL : zeroT Tryd.prog 61 = some (.agg [.str (ByteArray.mk #[]), .int .i64 0, .int .i64 0, .str (ByteArray.mk #[])]) := by kernel_rfl
theorem byL : bytesT Tryd.prog 61 ≤ 100000 := of_decide_eq_true (by kernel_rfl)
theorem appL {es : List (List D)} {b : Bool} (h0 : es ≠ []) (hl : es.length ≤ 100) : dAppend Tryd.prog S 22 22 (.sl 4 [] true) (.sl 4 es b) = some (.os S.length 0 es.length false, S ++ [.row 4 es]) := by
  have hb : es.length * bytesT Tryd.prog 61 ≤ 140737488355328 := Nat.le_trans (Nat.mul_le_mul hl byL) (by decide)
  have hm : (es.length ≤ maxLen) = True := le_max (by omega)
  have hn : es.length ≠ 0 := fun h => h0 (List.length_eq_zero_iff.1 h)
  have hz : (D.agg [.str (ByteArray.mk #[]), .int .i64 0, .int .i64 0, .str (ByteArray.mk #[])]).cells.length = 3 + 1 := rfl
  simp only [dAppend, if_true, elL, szL, zeL, hz, show srcOf S (3 + 1) (.sl 4 [] true) = some [] from rfl, show srcOf S (3 + 1) (.sl 4 es b) = some es from rfl, List.length_nil, Nat.zero_add, hm, hb, hn, and_self, if_false, ↓reduceIte, List.nil_append]
theorem CloneL {l : List Lid} {lx : Bool} (hn : 1 ≤ n) (hl : l ≠ []) (h6 : l.length ≤ 6) : callD E (dcall E n) st S 22 [.sl 4 (l.map Lid.enc) lx] = some (.sl 4 (l.map Lid.enc) false, S) := by
  obtain ⟨m, rfl⟩ : ∃ m, n = m + 1 := ⟨n - 1, by omega⟩
  have e0 : dEq Tryd.prog 10000 22 (.sl 4 (l.map Lid.enc) lx) .nils = some false := by
    cases l with
    | nil => exact (hl rfl).elim
    | cons w ws => rw [show (10000 : Nat) = 9999 + 1 from rfl]; simp only [dEq, Tryd.underlying22, List.map_cons]
  have hne : l.map Lid.enc ≠ [] := fun h => hl (List.map_eq_nil_iff.1 h)
  have ha := fun S b => appL (S := S) (b := b) hne (by rw [List.length_map]; omega)
  have : WO (dcall E (m + 1) 22 [.sl 4 (l.map Lid.enc) lx] []) fun d T => d = .os 0 0 (l.map Lid.enc).length false ∧ T = [.row 4 (l.map Lid.enc)] := by
    refine wo_dcall Tryd.func22 rfl (by decide) rfl 8 rfl (fun a hal ha => ?_)
    have h0 : a[0]? = some (.sl 4 (l.map Lid.enc) lx) := ha 0 (by simp)
    clear ha
    generalize l.map Lid.enc = es at *
    simp (maxSteps := 1000000) (disch := omega) only [push_cast, ↓wc_seq, ↓wc_block, ↓wc_scope, ↓wc_condL, ↓wc_region, ↓wr_cons, ↓wr_consgL, ↓wr_nil, ↓wo_pickL, ↓wo_callf, ↓wc_exit, ↓wc_ret, ↓wc_skip, ↓wc_wl, wo_some, wo_none, wo_ite, opQ_eq, seqQ_normal, seqQ_exit, seqQ_ret, blockQ_normal, blockQ_exit, blockQ_ret, iterQ_normal, iterQ_exit, iterQ_ret, retQ_normal, retQ_ret, retQ_exit, pickC_true, pickC_false, pickO_true, pickO_false, gstep_tt, gstep_ff, gstep_tf, gstep_ft, gstep_skip, int_bne, int_beq, decide_not, Nat.reduceAdd, Nat.reduceMul, Nat.reduceSub, Nat.reducePow, Nat.reduceLT, Nat.reduceLeDiff, Nat.reduceEqDiff, Int.reduceToNat, Int.reduceAdd, Int.reduceSub, Int.reduceNeg, Int.reduceMul, Int.reduceLT, Int.reduceLE, Int.reduceEq, le_max, ↓wo_build, ↓wo_buildSlice, evParts, ↓reduceIte, planIds, hasExt, cntFs, idxFs, clnFs, ovlFs, List.contains_cons, List.contains_nil, List.any_cons, List.any_nil, Nat.reduceBEq, setC, List.length_set, decide_eq_true_eq, decide_eq_false_iff_not, true_implies, false_implies, forall_const, reduceCtorEq, eq_self, Int.natCast_nonneg, Int.toNat_natCast, Int.ofNat_lt, D.int.injEq, Option.some.injEq, Nat.zero_add, Nat.add_zero, bne_iff_ne, bne_eq_false_iff_eq, beq_iff_eq, beq_eq_false_iff_ne, gt_iff_lt, ne_eq, not_true_eq_false, not_false_eq_true, hal, h0, e0, ha, List.nil_append, List.length_nil, Tryd.f22]
  obtain ⟨d, T, ho, rfl, rfl⟩ := this
  have hf := freeze_os (n := 38) (T := [Ob.row 4 (l.map Lid.enc)]) (k := 0) (x := false) rfl (Lids_pure l)
  exact callD_pure rfl (by simp [pureL_cons, pureL_nil, D.pure, Lids_pure]) ho hf
end
end Go.Proofs.YtajhgnefcddenaaDoor.Dm
