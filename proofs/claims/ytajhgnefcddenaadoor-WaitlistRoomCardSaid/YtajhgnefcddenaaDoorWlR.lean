/-
  A waiting list with one request: it joins, and it leaves.
  A waiting list with one request, and an inventory: Clear.
  Clear of a waiting list with one request, at an inventory.
-/
import Derived.Test.YtajhgnefcddenaaDoorWlS
import Derived.Test.YtajhgnefcddenaaDoorSkV
namespace Go.Proofs.YtajhgnefcddenaaDoor.Dm
open Go Gw
set_option linter.unusedSimpArgs false
set_option linter.unusedSimpArgs false

theorem get_psh {T : List Ob} {k : Nat} {o : Ob} (h : T[k]? = some o) (J : List Ob) : (T ++ J)[k]? = some o := by
  rw [List.getElem?_append_left (lt_of_get h)]; exact h
/-- Nothing else is changed. -/
def ButAt (k : Nat) (S T : List Ob) : Prop := S.length ≤ T.length ∧ ∀ j, j < S.length → j ≠ k → T[j]? = S[j]?
theorem ButAt.refl {k : Nat} {S : List Ob} : ButAt k S S := ⟨Nat.le_refl _, fun _ _ _ => rfl⟩
theorem ButAt.trans {k : Nat} {S T U : List Ob} (h : ButAt k S T) (g : ButAt k T U) : ButAt k S U :=
  ⟨Nat.le_trans h.1 g.1, fun j hj hk => (g.2 j (Nat.lt_of_lt_of_le hj h.1) hk).trans (h.2 j hj hk)⟩
theorem ButAt.push {k : Nat} {S : List Ob} (J : List Ob) : ButAt k S (S ++ J) :=
  ⟨by simp, fun j hj _ => List.getElem?_append_left hj⟩
theorem ButAt.set {k : Nat} {S : List Ob} (o : Ob) : ButAt k S (S.set k o) :=
  ⟨by simp, fun j _ hk => List.getElem?_set_ne (Ne.symm hk)⟩
/-- A new object is changed. -/
theorem ButAt.setn {k m : Nat} {S T : List Ob} (h : ButAt k S T) (o : Ob) (hm : S.length ≤ m) : ButAt k S (T.set m o) :=
  ⟨by rw [List.length_set]; exact h.1, fun j hj hk => by rw [List.getElem?_set_ne (by omega)]; exact h.2 j hj hk⟩
section
variable {n : Nat} {S : List Ob} {st : Bool}
theorem OneAt.get {k : Nat} {x : Wt} (h : OneAt S k x) : ∃ q, q ≠ k ∧ LiAt S k (.os q 0 1 false) ∧ S[q]? = some (.row 5 [x.enc]) := by
  obtain ⟨q, h1, h2⟩ := h
  refine ⟨q, ?_, h1, h2⟩
  rintro rfl
  unfold LiAt at h1
  rw [h1] at h2
  simp at h2
/-- A list with one request, that lies in a new place. -/
def OneN (S T : List Ob) (k : Nat) (x : Wt) : Prop := ∃ q, S.length ≤ q ∧ LiAt T k (.os q 0 1 false) ∧ T[q]? = some (.row 5 [x.enc])
theorem insertS {k : Nat} {x : Wt} (hn : 3 ≤ n) (h : LiAt S k .nils) : ∃ T, (∀ st, callD E (dcall E n) st S 23 [.loc k 0 0, .agg x.enc] = some (.tup [], T)) ∧ OneN S T k x ∧ ButAt k S T := by
  obtain ⟨m, rfl⟩ : ∃ m, n = m + 1 := ⟨n - 1, by omega⟩
  have : WO (dcall E (m + 1) 23 [.loc k 0 0, .agg x.enc] S) fun d T => d = .tup [] ∧ OneN S T k x ∧ ButAt k S T := by
    have hk := lt_of_get h
    have h := h.app [.row 5 [x.enc]]
    have hh := h.app [.row 5 [x.enc]]
    have cb := fun st S => BinN (n := m) (S := S) (st := st) (x := x) (by omega)
    have cl := fun st S => Clone0 (n := m) (by omega) st S
    have ci := fun st S b => Insert_c (n := m) (S := S) (st := st) (x := x.enc) (b := b) (by omega)
    unfold LiAt at h hh
    refine wo_dcall Tryd.func23 rfl (by decide) rfl 31 rfl (fun a hal ha => ?_)
    have h0 : a[0]? = some (.loc k 0 0) := ha 0 (by simp)
    have h1 : a[1]? = some (.agg x.enc) := ha 1 (by simp)
    clear ha
    simp only [Wt.enc] at h1 h hh cb ci
    refine wc_scut (fun a T => T = S ++ [Ob.row 5 [x.enc]] ∧ a.length = 31 ∧ a[0]? = some (.loc k 0 0) ∧ a[3]? = some (.loc S.length 0 0)) ?_ ?_
    · simp (maxSteps := 1000000) (disch := omega) only [push_cast, ↓wc_seq, ↓wc_block, ↓wc_scope, ↓wc_condL, ↓wc_region, ↓wr_cons, ↓wr_consgL, ↓wr_nil, ↓wo_pickL, ↓wo_callf, ↓wc_exit, ↓wc_ret, ↓wc_skip, ↓wc_wl, wo_some, wo_none, wo_ite, opQ_eq, seqQ_normal, seqQ_exit, seqQ_ret, blockQ_normal, blockQ_exit, blockQ_ret, iterQ_normal, iterQ_exit, iterQ_ret, retQ_normal, retQ_ret, retQ_exit, pickC_true, pickC_false, pickO_true, pickO_false, gstep_tt, gstep_ff, gstep_tf, gstep_ft, gstep_skip, int_bne, int_beq, decide_not, Nat.reduceAdd, Nat.reduceMul, Nat.reduceSub, Nat.reducePow, Nat.reduceLT, Nat.reduceLeDiff, Nat.reduceEqDiff, Int.reduceToNat, Int.reduceAdd, Int.reduceSub, Int.reduceNeg, Int.reduceMul, Int.reduceLT, Int.reduceLE, Int.reduceEq, le_max, ↓wo_build, ↓wo_buildSlice, evParts, ↓reduceIte, planIds, hasExt, cntFs, idxFs, clnFs, ovlFs, List.contains_cons, List.contains_nil, List.any_cons, List.any_nil, Nat.reduceBEq, setC, List.length_set, decide_eq_true_eq, decide_eq_false_iff_not, true_implies, false_implies, forall_const, reduceCtorEq, eq_self, Int.natCast_nonneg, Int.toNat_natCast, Int.ofNat_lt, D.int.injEq, Option.some.injEq, Nat.zero_add, Nat.add_zero, bne_iff_ne, bne_eq_false_iff_eq, beq_iff_eq, beq_eq_false_iff_ne, gt_iff_lt, ne_eq, not_true_eq_false, not_false_eq_true, hal, h0, h1, Wt.enc]
    clear hal h0 h1 a
    rintro a T ⟨rfl, hal, h0, h3⟩
    simp only [Wt.enc]
    refine wc_scut (fun a T => T = S ++ [Ob.row 5 [x.enc]] ∧ a.length = 31 ∧ a[0]? = some (.loc k 0 0) ∧ a[3]? = some (.loc S.length 0 0) ∧ a[4]? = some (.int .i64 0)) ?_ ?_
    · simp (maxSteps := 1000000) (disch := omega) only [push_cast, ↓wc_seq, ↓wc_block, ↓wc_scope, ↓wc_condL, ↓wc_region, ↓wr_cons, ↓wr_consgL, ↓wr_nil, ↓wo_pickL, ↓wo_callf, ↓wc_exit, ↓wc_ret, ↓wc_skip, ↓wc_wl, wo_some, wo_none, wo_ite, opQ_eq, seqQ_normal, seqQ_exit, seqQ_ret, blockQ_normal, blockQ_exit, blockQ_ret, iterQ_normal, iterQ_exit, iterQ_ret, retQ_normal, retQ_ret, retQ_exit, pickC_true, pickC_false, pickO_true, pickO_false, gstep_tt, gstep_ff, gstep_tf, gstep_ft, gstep_skip, int_bne, int_beq, decide_not, Nat.reduceAdd, Nat.reduceMul, Nat.reduceSub, Nat.reducePow, Nat.reduceLT, Nat.reduceLeDiff, Nat.reduceEqDiff, Int.reduceToNat, Int.reduceAdd, Int.reduceSub, Int.reduceNeg, Int.reduceMul, Int.reduceLT, Int.reduceLE, Int.reduceEq, le_max, ↓wo_build, ↓wo_buildSlice, evParts, ↓reduceIte, planIds, hasExt, cntFs, idxFs, clnFs, ovlFs, List.contains_cons, List.contains_nil, List.any_cons, List.any_nil, Nat.reduceBEq, setC, List.length_set, decide_eq_true_eq, decide_eq_false_iff_not, true_implies, false_implies, forall_const, reduceCtorEq, eq_self, Int.natCast_nonneg, Int.toNat_natCast, Int.ofNat_lt, D.int.injEq, Option.some.injEq, Nat.zero_add, Nat.add_zero, bne_iff_ne, bne_eq_false_iff_eq, beq_iff_eq, beq_eq_false_iff_ne, gt_iff_lt, ne_eq, not_true_eq_false, not_false_eq_true, hal, h0, h3, h, cb, get_end, Wt.enc]
    clear hal h0 h3 a
    rintro a T ⟨rfl, hal, h0, h3, h4⟩
    rw [wc_plan (p := steps [0, 1, 2, 3, 4, 6, 7, 5, 8, 9, 10, 11, 12] .done) rfl]
    rw [wp_pick rfl]
    simp only [opsOf, List.filterMap_cons, List.filterMap_nil, List.getElem?_toArray, List.getElem?_cons_zero, List.getElem?_cons_succ]
    simp (maxSteps := 1000000) (disch := omega) only [push_cast, ↓wc_seq, ↓wc_block, ↓wc_scope, ↓wc_condL, ↓wc_region, ↓wr_cons, ↓wr_consgL, ↓wr_nil, ↓wo_pickL, ↓wo_callf, ↓wc_exit, ↓wc_ret, ↓wc_skip, ↓wc_wl, wo_some, wo_none, wo_ite, opQ_eq, seqQ_normal, seqQ_exit, seqQ_ret, blockQ_normal, blockQ_exit, blockQ_ret, iterQ_normal, iterQ_exit, iterQ_ret, retQ_normal, retQ_ret, retQ_exit, pickC_true, pickC_false, pickO_true, pickO_false, gstep_tt, gstep_ff, gstep_tf, gstep_ft, gstep_skip, int_bne, int_beq, decide_not, Nat.reduceAdd, Nat.reduceMul, Nat.reduceSub, Nat.reducePow, Nat.reduceLT, Nat.reduceLeDiff, Nat.reduceEqDiff, Int.reduceToNat, Int.reduceAdd, Int.reduceSub, Int.reduceNeg, Int.reduceMul, Int.reduceLT, Int.reduceLE, Int.reduceEq, le_max, ↓wo_build, ↓wo_buildSlice, evParts, ↓reduceIte, planIds, hasExt, cntFs, idxFs, clnFs, ovlFs, List.contains_cons, List.contains_nil, List.any_cons, List.any_nil, Nat.reduceBEq, setC, List.length_set, decide_eq_true_eq, decide_eq_false_iff_not, true_implies, false_implies, forall_const, reduceCtorEq, eq_self, Int.natCast_nonneg, Int.toNat_natCast, Int.ofNat_lt, D.int.injEq, Option.some.injEq, Nat.zero_add, Nat.add_zero, bne_iff_ne, bne_eq_false_iff_eq, beq_iff_eq, beq_eq_false_iff_ne, gt_iff_lt, ne_eq, not_true_eq_false, not_false_eq_true, hal, h0, h3, h4, h, hh, cl, ci, get_end, Wt.enc, wp_done, List.set_set, ↓set_sorti, id_eq, Tryd.f23]
    refine ⟨⟨(S ++ [Ob.row 5 [x.enc]]).length, by simp, ?_, ?_⟩, ((ButAt.push _).trans (ButAt.push _)).trans (ButAt.set _)⟩
    · unfold LiAt
      rw [List.getElem?_set_self (by simp; omega)]
      rfl
    · rw [List.getElem?_set_ne (by simp; omega)]
      exact get_end (l := S ++ [Ob.row 5 [x.enc]])
  obtain ⟨d, T, ho, rfl, h1, h2⟩ := this
  exact ⟨T, fun st => (callD_genw rfl).trans ho, h1, h2⟩
theorem fdxL0_c {v : Lid} {lx : Bool} (hn : 10 ≤ n) : callD E (dcall E n) st S 62 [.sl 4 [] lx, .agg v.enc] = some (.int .i64 (-1), S) := by
  obtain ⟨m, rfl⟩ : ∃ m, n = m + 1 := ⟨n - 1, by omega⟩
  have : WO (dcall E (m + 1) 62 [.sl 4 [] lx, .agg v.enc] []) fun d T => d = .int .i64 (-1) := by
    refine wo_dcall Tryd.func62 rfl (by decide) rfl 19 rfl (fun a hal ha => ?_)
    have h0 : a[0]? = some (.sl 4 [] lx) := ha 0 (by simp)
    have h1 : a[1]? = some (.agg v.enc) := ha 1 (by simp)
    clear ha
    simp only [Lid.enc] at h1
    simp (maxSteps := 1000000) (disch := omega) only [push_cast, ↓wc_seq, ↓wc_block, ↓wc_scope, ↓wc_condL, ↓wc_region, ↓wr_cons, ↓wr_consgL, ↓wr_nil, ↓wo_pickL, ↓wo_callf, ↓wc_exit, ↓wc_ret, ↓wc_skip, ↓wc_wl, wo_some, wo_none, wo_ite, opQ_eq, seqQ_normal, seqQ_exit, seqQ_ret, blockQ_normal, blockQ_exit, blockQ_ret, iterQ_normal, iterQ_exit, iterQ_ret, retQ_normal, retQ_ret, retQ_exit, pickC_true, pickC_false, pickO_true, pickO_false, gstep_tt, gstep_ff, gstep_tf, gstep_ft, gstep_skip, int_bne, int_beq, decide_not, Nat.reduceAdd, Nat.reduceMul, Nat.reduceSub, Nat.reducePow, Nat.reduceLT, Nat.reduceLeDiff, Nat.reduceEqDiff, Int.reduceToNat, Int.reduceAdd, Int.reduceSub, Int.reduceNeg, Int.reduceMul, Int.reduceLT, Int.reduceLE, Int.reduceEq, le_max, ↓wo_build, ↓wo_buildSlice, evParts, ↓reduceIte, planIds, hasExt, cntFs, idxFs, clnFs, ovlFs, List.contains_cons, List.contains_nil, List.any_cons, List.any_nil, Nat.reduceBEq, setC, List.length_set, decide_eq_true_eq, decide_eq_false_iff_not, true_implies, false_implies, forall_const, reduceCtorEq, eq_self, Int.natCast_nonneg, Int.toNat_natCast, Int.ofNat_lt, D.int.injEq, Option.some.injEq, Nat.zero_add, Nat.add_zero, bne_iff_ne, bne_eq_false_iff_eq, beq_iff_eq, beq_eq_false_iff_ne, gt_iff_lt, ne_eq, not_true_eq_false, not_false_eq_true, hal, h0, h1, List.nil_append, List.length_nil, Int.natCast_zero]
    refine wl_loop (fun i a T => T = [Ob.row 4 [v.enc]] ∧ a.length = 19 ∧ a[7]? = some (.int .i64 0) ∧ a[8]? = some (.int .i64 0)) 0 ?_ (by omega) ?_
    · simp (maxSteps := 1000000) (disch := omega) only [push_cast, ↓wc_seq, ↓wc_block, ↓wc_scope, ↓wc_condL, ↓wc_region, ↓wr_cons, ↓wr_consgL, ↓wr_nil, ↓wo_pickL, ↓wo_callf, ↓wc_exit, ↓wc_ret, ↓wc_skip, ↓wc_wl, wo_some, wo_none, wo_ite, opQ_eq, seqQ_normal, seqQ_exit, seqQ_ret, blockQ_normal, blockQ_exit, blockQ_ret, iterQ_normal, iterQ_exit, iterQ_ret, retQ_normal, retQ_ret, retQ_exit, pickC_true, pickC_false, pickO_true, pickO_false, gstep_tt, gstep_ff, gstep_tf, gstep_ft, gstep_skip, int_bne, int_beq, decide_not, Nat.reduceAdd, Nat.reduceMul, Nat.reduceSub, Nat.reducePow, Nat.reduceLT, Nat.reduceLeDiff, Nat.reduceEqDiff, Int.reduceToNat, Int.reduceAdd, Int.reduceSub, Int.reduceNeg, Int.reduceMul, Int.reduceLT, Int.reduceLE, Int.reduceEq, le_max, ↓wo_build, ↓wo_buildSlice, evParts, ↓reduceIte, planIds, hasExt, cntFs, idxFs, clnFs, ovlFs, List.contains_cons, List.contains_nil, List.any_cons, List.any_nil, Nat.reduceBEq, setC, List.length_set, decide_eq_true_eq, decide_eq_false_iff_not, true_implies, false_implies, forall_const, reduceCtorEq, eq_self, Int.natCast_nonneg, Int.toNat_natCast, Int.ofNat_lt, D.int.injEq, Option.some.injEq, Nat.zero_add, Nat.add_zero, bne_iff_ne, bne_eq_false_iff_eq, beq_iff_eq, beq_eq_false_iff_ne, gt_iff_lt, ne_eq, not_true_eq_false, not_false_eq_true, hal, h0, h1, Lid.enc]
    clear hal h0 h1 a
    rintro i a T hi ⟨rfl, hal, h7, h8⟩
    simp (maxSteps := 1000000) (disch := omega) only [push_cast, ↓wc_seq, ↓wc_block, ↓wc_scope, ↓wc_condL, ↓wc_region, ↓wr_cons, ↓wr_consgL, ↓wr_nil, ↓wo_pickL, ↓wo_callf, ↓wc_exit, ↓wc_ret, ↓wc_skip, ↓wc_wl, wo_some, wo_none, wo_ite, opQ_eq, seqQ_normal, seqQ_exit, seqQ_ret, blockQ_normal, blockQ_exit, blockQ_ret, iterQ_normal, iterQ_exit, iterQ_ret, retQ_normal, retQ_ret, retQ_exit, pickC_true, pickC_false, pickO_true, pickO_false, gstep_tt, gstep_ff, gstep_tf, gstep_ft, gstep_skip, int_bne, int_beq, decide_not, Nat.reduceAdd, Nat.reduceMul, Nat.reduceSub, Nat.reducePow, Nat.reduceLT, Nat.reduceLeDiff, Nat.reduceEqDiff, Int.reduceToNat, Int.reduceAdd, Int.reduceSub, Int.reduceNeg, Int.reduceMul, Int.reduceLT, Int.reduceLE, Int.reduceEq, le_max, ↓wo_build, ↓wo_buildSlice, evParts, ↓reduceIte, planIds, hasExt, cntFs, idxFs, clnFs, ovlFs, List.contains_cons, List.contains_nil, List.any_cons, List.any_nil, Nat.reduceBEq, setC, List.length_set, decide_eq_true_eq, decide_eq_false_iff_not, true_implies, false_implies, forall_const, reduceCtorEq, eq_self, Int.natCast_nonneg, Int.toNat_natCast, Int.ofNat_lt, D.int.injEq, Option.some.injEq, Nat.zero_add, Nat.add_zero, bne_iff_ne, bne_eq_false_iff_eq, beq_iff_eq, beq_eq_false_iff_ne, gt_iff_lt, ne_eq, not_true_eq_false, not_false_eq_true, hal, h7, h8, Int.lt_irrefl, Tryd.f62]
  obtain ⟨d, T, ho, rfl⟩ := this
  exact callD_pure rfl (by simp [pureL_cons, pureL_nil, D.pure, Lid_pure, pureLL]) ho rfl
theorem hasL0_c {v : Lid} {lx : Bool} (hn : 11 ≤ n) : callD E (dcall E n) st S 47 [.sl 4 [] lx, .agg v.enc] = some (.bool false, S) := by
  obtain ⟨m, rfl⟩ : ∃ m, n = m + 1 := ⟨n - 1, by omega⟩
  have ci := fun st S => fdxL0_c (n := m) (st := st) (S := S) (v := v) (lx := lx) (by omega)
  have : WO (dcall E (m + 1) 47 [.sl 4 [] lx, .agg v.enc] []) fun d T => d = .bool false := by
    refine wo_dcall Tryd.func47 rfl (by decide) rfl 9 rfl (fun a hal ha => ?_)
    have h0 : a[0]? = some (.sl 4 [] lx) := ha 0 (by simp)
    have h1 : a[1]? = some (.agg v.enc) := ha 1 (by simp)
    clear ha
    simp only [Lid.enc] at h1 ci
    have hge : decide ((-1 : Int) ≥ 0) = false := rfl
    simp (maxSteps := 1000000) (disch := omega) only [push_cast, ↓wc_seq, ↓wc_block, ↓wc_scope, ↓wc_condL, ↓wc_region, ↓wr_cons, ↓wr_consgL, ↓wr_nil, ↓wo_pickL, ↓wo_callf, ↓wc_exit, ↓wc_ret, ↓wc_skip, ↓wc_wl, wo_some, wo_none, wo_ite, opQ_eq, seqQ_normal, seqQ_exit, seqQ_ret, blockQ_normal, blockQ_exit, blockQ_ret, iterQ_normal, iterQ_exit, iterQ_ret, retQ_normal, retQ_ret, retQ_exit, pickC_true, pickC_false, pickO_true, pickO_false, gstep_tt, gstep_ff, gstep_tf, gstep_ft, gstep_skip, int_bne, int_beq, decide_not, Nat.reduceAdd, Nat.reduceMul, Nat.reduceSub, Nat.reducePow, Nat.reduceLT, Nat.reduceLeDiff, Nat.reduceEqDiff, Int.reduceToNat, Int.reduceAdd, Int.reduceSub, Int.reduceNeg, Int.reduceMul, Int.reduceLT, Int.reduceLE, Int.reduceEq, le_max, ↓wo_build, ↓wo_buildSlice, evParts, ↓reduceIte, planIds, hasExt, cntFs, idxFs, clnFs, ovlFs, List.contains_cons, List.contains_nil, List.any_cons, List.any_nil, Nat.reduceBEq, setC, List.length_set, decide_eq_true_eq, decide_eq_false_iff_not, true_implies, false_implies, forall_const, reduceCtorEq, eq_self, Int.natCast_nonneg, Int.toNat_natCast, Int.ofNat_lt, D.int.injEq, Option.some.injEq, Nat.zero_add, Nat.add_zero, bne_iff_ne, bne_eq_false_iff_eq, beq_iff_eq, beq_eq_false_iff_ne, gt_iff_lt, ne_eq, not_true_eq_false, not_false_eq_true, hal, h0, h1, List.nil_append, List.length_nil, List.getElem?_cons_zero, ci, hge, Tryd.f47]
  obtain ⟨d, T, ho, rfl⟩ := this
  exact callD_pure rfl (by simp [pureL_cons, pureL_nil, D.pure, Lid_pure, pureLL]) ho rfl
/-- A request for one leg is right. -/
theorem valid1_c {x : Wt} {w : Lid} (hn : 200 ≤ n) (hw : x.legs = [w]) (hi : 1 ≤ x.id) (hc : 1 ≤ x.cnt) (hc2 : x.cnt ≤ 99) : callD E (dcall E n) st S 21 [.agg x.enc] = some (.bool true, S) := by
  obtain ⟨m, rfl⟩ : ∃ m, n = m + 1 := ⟨n - 1, by omega⟩
  have : WO (dcall E (m + 1) 21 [.agg x.enc] []) fun d T => d = .bool true := by
    refine wo_dcall Tryd.func21 rfl (by decide) rfl 39 rfl (fun a hal ha => ?_)
    have h0 : a[0]? = some (.agg x.enc) := ha 0 (by simp)
    clear ha
    have c1 : ¬ x.id < 1 := by omega
    have c3 : ¬ x.cnt < 1 := by omega
    have c4 : ¬ (99 : Int) < x.cnt := by omega
    have ch := fun st S b => hasL0_c (n := m) (st := st) (S := S) (v := w) (lx := b) (by omega)
    simp only [Wt.enc, hw, List.map_cons, List.map_nil] at h0
    simp (maxSteps := 1000000) (disch := omega) only [push_cast, ↓wc_seq, ↓wc_block, ↓wc_scope, ↓wc_condL, ↓wc_region, ↓wr_cons, ↓wr_consgL, ↓wr_nil, ↓wo_pickL, ↓wo_callf, ↓wc_exit, ↓wc_ret, ↓wc_skip, ↓wc_wl, wo_some, wo_none, wo_ite, opQ_eq, seqQ_normal, seqQ_exit, seqQ_ret, blockQ_normal, blockQ_exit, blockQ_ret, iterQ_normal, iterQ_exit, iterQ_ret, retQ_normal, retQ_ret, retQ_exit, pickC_true, pickC_false, pickO_true, pickO_false, gstep_tt, gstep_ff, gstep_tf, gstep_ft, gstep_skip, int_bne, int_beq, decide_not, Nat.reduceAdd, Nat.reduceMul, Nat.reduceSub, Nat.reducePow, Nat.reduceLT, Nat.reduceLeDiff, Nat.reduceEqDiff, Int.reduceToNat, Int.reduceAdd, Int.reduceSub, Int.reduceNeg, Int.reduceMul, Int.reduceLT, Int.reduceLE, Int.reduceEq, le_max, ↓wo_build, ↓wo_buildSlice, evParts, ↓reduceIte, planIds, hasExt, cntFs, idxFs, clnFs, ovlFs, List.contains_cons, List.contains_nil, List.any_cons, List.any_nil, Nat.reduceBEq, setC, List.length_set, decide_eq_true_eq, decide_eq_false_iff_not, true_implies, false_implies, forall_const, reduceCtorEq, eq_self, Int.natCast_nonneg, Int.toNat_natCast, Int.ofNat_lt, D.int.injEq, Option.some.injEq, Nat.zero_add, Nat.add_zero, bne_iff_ne, bne_eq_false_iff_eq, beq_iff_eq, beq_eq_false_iff_ne, gt_iff_lt, ne_eq, not_true_eq_false, not_false_eq_true, hal, h0, List.nil_append, List.length_nil, List.length_cons, List.getElem?_cons_zero, c1, c3, c4, Int.natCast_one]
    refine wl_loop (fun i a T => (∃ J, T = [Ob.row 5 [x.enc]] ++ J) ∧ a.length = 39 ∧ a[1]? = some (.loc 0 0 0) ∧ a[25]? = some (.sl 4 [w.enc] x.legsx) ∧ a[26]? = some (.int .i64 1) ∧ a[27]? = some (.int .i64 i)) 1 ?_ (by omega) ?_
    · simp (maxSteps := 1000000) (disch := omega) only [push_cast, ↓wc_seq, ↓wc_block, ↓wc_scope, ↓wc_condL, ↓wc_region, ↓wr_cons, ↓wr_consgL, ↓wr_nil, ↓wo_pickL, ↓wo_callf, ↓wc_exit, ↓wc_ret, ↓wc_skip, ↓wc_wl, wo_some, wo_none, wo_ite, opQ_eq, seqQ_normal, seqQ_exit, seqQ_ret, blockQ_normal, blockQ_exit, blockQ_ret, iterQ_normal, iterQ_exit, iterQ_ret, retQ_normal, retQ_ret, retQ_exit, pickC_true, pickC_false, pickO_true, pickO_false, gstep_tt, gstep_ff, gstep_tf, gstep_ft, gstep_skip, int_bne, int_beq, decide_not, Nat.reduceAdd, Nat.reduceMul, Nat.reduceSub, Nat.reducePow, Nat.reduceLT, Nat.reduceLeDiff, Nat.reduceEqDiff, Int.reduceToNat, Int.reduceAdd, Int.reduceSub, Int.reduceNeg, Int.reduceMul, Int.reduceLT, Int.reduceLE, Int.reduceEq, le_max, ↓wo_build, ↓wo_buildSlice, evParts, ↓reduceIte, planIds, hasExt, cntFs, idxFs, clnFs, ovlFs, List.contains_cons, List.contains_nil, List.any_cons, List.any_nil, Nat.reduceBEq, setC, List.length_set, decide_eq_true_eq, decide_eq_false_iff_not, true_implies, false_implies, forall_const, reduceCtorEq, eq_self, Int.natCast_nonneg, Int.toNat_natCast, Int.ofNat_lt, D.int.injEq, Option.some.injEq, Nat.zero_add, Nat.add_zero, bne_iff_ne, bne_eq_false_iff_eq, beq_iff_eq, beq_eq_false_iff_ne, gt_iff_lt, ne_eq, not_true_eq_false, not_false_eq_true, hal, h0, Int.natCast_zero, Wt.enc, hw, List.map_cons, List.map_nil, List.length_nil]
      exact ⟨[], rfl⟩
    clear hal h0 a
    rintro i a T hi ⟨⟨J, rfl⟩, hal, h1, h25, h26, h27⟩
    rcases Nat.lt_or_eq_of_le hi with hlt | rfl
    case inr =>
      simp (maxSteps := 1000000) (disch := omega) only [push_cast, ↓wc_seq, ↓wc_block, ↓wc_scope, ↓wc_condL, ↓wc_region, ↓wr_cons, ↓wr_consgL, ↓wr_nil, ↓wo_pickL, ↓wo_callf, ↓wc_exit, ↓wc_ret, ↓wc_skip, ↓wc_wl, wo_some, wo_none, wo_ite, opQ_eq, seqQ_normal, seqQ_exit, seqQ_ret, blockQ_normal, blockQ_exit, blockQ_ret, iterQ_normal, iterQ_exit, iterQ_ret, retQ_normal, retQ_ret, retQ_exit, pickC_true, pickC_false, pickO_true, pickO_false, gstep_tt, gstep_ff, gstep_tf, gstep_ft, gstep_skip, int_bne, int_beq, decide_not, Nat.reduceAdd, Nat.reduceMul, Nat.reduceSub, Nat.reducePow, Nat.reduceLT, Nat.reduceLeDiff, Nat.reduceEqDiff, Int.reduceToNat, Int.reduceAdd, Int.reduceSub, Int.reduceNeg, Int.reduceMul, Int.reduceLT, Int.reduceLE, Int.reduceEq, le_max, ↓wo_build, ↓wo_buildSlice, evParts, ↓reduceIte, planIds, hasExt, cntFs, idxFs, clnFs, ovlFs, List.contains_cons, List.contains_nil, List.any_cons, List.any_nil, Nat.reduceBEq, setC, List.length_set, decide_eq_true_eq, decide_eq_false_iff_not, true_implies, false_implies, forall_const, reduceCtorEq, eq_self, Int.natCast_nonneg, Int.toNat_natCast, Int.ofNat_lt, D.int.injEq, Option.some.injEq, Nat.zero_add, Nat.add_zero, bne_iff_ne, bne_eq_false_iff_eq, beq_iff_eq, beq_eq_false_iff_ne, gt_iff_lt, ne_eq, not_true_eq_false, not_false_eq_true, hal, h1, h25, h26, h27, Int.natCast_one, Int.lt_irrefl, Tryd.f21]
    obtain rfl : i = 0 := by omega
    have g0 : ∀ o : Ob, (Ob.row 5 [x.enc] :: (J ++ [o]))[J.length + 1]? = some o := fun o => by simp
    have g1 : ∀ o : Ob, (Ob.row 5 [x.enc] :: (J ++ [o])).set (J.length + 1) = fun o' => (Ob.row 5 [x.enc] :: (J ++ [o'])) := fun o => by funext o'; simp
    simp only [Lid.enc, Wt.enc, hw, List.map_cons, List.map_nil] at ch g0 g1
    simp only [Wt.enc, hw, List.map_cons, List.map_nil]
    simp (maxSteps := 1000000) (disch := omega) only [push_cast, ↓wc_seq, ↓wc_block, ↓wc_scope, ↓wc_condL, ↓wc_region, ↓wr_cons, ↓wr_consgL, ↓wr_nil, ↓wo_pickL, ↓wo_callf, ↓wc_exit, ↓wc_ret, ↓wc_skip, ↓wc_wl, wo_some, wo_none, wo_ite, opQ_eq, seqQ_normal, seqQ_exit, seqQ_ret, blockQ_normal, blockQ_exit, blockQ_ret, iterQ_normal, iterQ_exit, iterQ_ret, retQ_normal, retQ_ret, retQ_exit, pickC_true, pickC_false, pickO_true, pickO_false, gstep_tt, gstep_ff, gstep_tf, gstep_ft, gstep_skip, int_bne, int_beq, decide_not, Nat.reduceAdd, Nat.reduceMul, Nat.reduceSub, Nat.reducePow, Nat.reduceLT, Nat.reduceLeDiff, Nat.reduceEqDiff, Int.reduceToNat, Int.reduceAdd, Int.reduceSub, Int.reduceNeg, Int.reduceMul, Int.reduceLT, Int.reduceLE, Int.reduceEq, le_max, ↓wo_build, ↓wo_buildSlice, evParts, ↓reduceIte, planIds, hasExt, cntFs, idxFs, clnFs, ovlFs, List.contains_cons, List.contains_nil, List.any_cons, List.any_nil, Nat.reduceBEq, setC, List.length_set, decide_eq_true_eq, decide_eq_false_iff_not, true_implies, false_implies, forall_const, reduceCtorEq, eq_self, Int.natCast_nonneg, Int.toNat_natCast, Int.ofNat_lt, D.int.injEq, Option.some.injEq, Nat.zero_add, Nat.add_zero, bne_iff_ne, bne_eq_false_iff_eq, beq_iff_eq, beq_eq_false_iff_ne, gt_iff_lt, ne_eq, not_true_eq_false, not_false_eq_true, hal, h1, h25, h26, h27, Int.natCast_zero, Nat.zero_le, Nat.sub_zero, List.drop_zero, List.take_zero, Lid.enc, List.getElem?_cons_zero, List.cons_append, List.nil_append, List.length_cons, List.length_append, List.length_nil, g0, g1, ch, wrap_ok, Int.natCast_one]
    exact ⟨_, rfl⟩
  obtain ⟨d, T, ho, rfl⟩ := this
  exact callD_pure rfl (by simp [pureL_cons, pureL_nil, D.pure, Wt_pure]) ho rfl
theorem JoinS {k : Nat} {x : Wt} {w : Lid} (hn : 300 ≤ n) (hw : x.legs = [w]) (hi : 1 ≤ x.id) (hc : 1 ≤ x.cnt) (hc2 : x.cnt ≤ 99) (h : LiAt S k .nils) : ∃ T, (∀ st, callD E (dcall E n) st S 9 [.loc k 0 0, .agg x.enc] = some (.int .i64 0, T)) ∧ OneN S T k { x with legsx := false } ∧ ButAt k S T := by
  obtain ⟨m, rfl⟩ : ∃ m, n = m + 1 := ⟨n - 1, by omega⟩
  have : WO (dcall E (m + 1) 9 [.loc k 0 0, .agg x.enc] S) fun d T => d = .int .i64 0 ∧ OneN S T k { x with legsx := false } ∧ ButAt k S T := by
    have h2 := h.app [.row 5 [x.enc]]
    have cv := fun st S => valid1_c (n := m) (st := st) (S := S) (by omega) hw hi hc hc2
    have hi := id h2
    unfold LiAt at h2
    refine wo_dcall Tryd.func9 rfl (by decide) rfl 36 rfl (fun a hal ha => ?_)
    have h0 : a[0]? = some (.loc k 0 0) := ha 0 (by simp)
    have h1 : a[1]? = some (.agg x.enc) := ha 1 (by simp)
    clear ha
    have cf := fun st => FindN (n := m) (st := st) (i := x.id) (by omega) hi
    have cl := CloneL (n := m) (lx := x.legsx) (l := x.legs) (st := false) (S := S ++ [.row 5 [x.enc]]) (by omega) (by rw [hw]; simp) (by rw [hw]; simp)
    obtain ⟨TT, ho, h1s, hb⟩ := insertS (n := m) (x := { x with legsx := false }) (by omega) (h.app [.row 5 [{ x with legsx := false }.enc]])
    have hb' : ButAt k S TT := (ButAt.push _).trans hb
    simp only [Wt.enc] at h1 h2 cv hi cf cl ho
    have hge : decide ((-1 : Int) ≥ 0) = false := rfl
    simp (maxSteps := 1000000) (disch := omega) only [push_cast, ↓wc_seq, ↓wc_block, ↓wc_scope, ↓wc_condL, ↓wc_region, ↓wr_cons, ↓wr_consgL, ↓wr_nil, ↓wo_pickL, ↓wo_callf, ↓wc_exit, ↓wc_ret, ↓wc_skip, ↓wc_wl, wo_some, wo_none, wo_ite, opQ_eq, seqQ_normal, seqQ_exit, seqQ_ret, blockQ_normal, blockQ_exit, blockQ_ret, iterQ_normal, iterQ_exit, iterQ_ret, retQ_normal, retQ_ret, retQ_exit, pickC_true, pickC_false, pickO_true, pickO_false, gstep_tt, gstep_ff, gstep_tf, gstep_ft, gstep_skip, int_bne, int_beq, decide_not, Nat.reduceAdd, Nat.reduceMul, Nat.reduceSub, Nat.reducePow, Nat.reduceLT, Nat.reduceLeDiff, Nat.reduceEqDiff, Int.reduceToNat, Int.reduceAdd, Int.reduceSub, Int.reduceNeg, Int.reduceMul, Int.reduceLT, Int.reduceLE, Int.reduceEq, le_max, ↓wo_build, ↓wo_buildSlice, evParts, ↓reduceIte, planIds, hasExt, cntFs, idxFs, clnFs, ovlFs, List.contains_cons, List.contains_nil, List.any_cons, List.any_nil, Nat.reduceBEq, setC, List.length_set, decide_eq_true_eq, decide_eq_false_iff_not, true_implies, false_implies, forall_const, reduceCtorEq, eq_self, Int.natCast_nonneg, Int.toNat_natCast, Int.ofNat_lt, D.int.injEq, Option.some.injEq, Nat.zero_add, Nat.add_zero, bne_iff_ne, bne_eq_false_iff_eq, beq_iff_eq, beq_eq_false_iff_ne, gt_iff_lt, ne_eq, not_true_eq_false, not_false_eq_true, hal, h0, h1, eqp_list1, h2, dUn, cv, cf, cl, ho, hge, get_end, set_end, Tryd.f9]
    obtain ⟨q, q1, q2, q3⟩ := h1s
    exact ⟨⟨q, by rw [List.length_append] at q1; omega, q2, q3⟩, hb'⟩
  obtain ⟨d, T, ho, rfl, h1, h2⟩ := this
  exact ⟨T, fun st => (callD_genw rfl).trans ho, h1, h2⟩
/-! ### Leaving -/
theorem Delete1 {k : Nat} {x : List D} (hn : 1 ≤ n) (hk : S[k]? = some (.row 5 [x])) : callD E (dcall E n) st S 44 [.os k 0 1 false, .int .i64 0, .int .i64 1] = some (.os k 0 0 false, S.set k (.row 5 [Wl.zW])) := by
  obtain ⟨m, rfl⟩ : ∃ m, n = m + 1 := ⟨n - 1, by omega⟩
  have : WO (dcall E (m + 1) 44 [.os k 0 1 false, .int .i64 0, .int .i64 1] S) fun d T => d = .os k 0 0 false ∧ T = S.set k (.row 5 [Wl.zW]) := by
    have ha : ∀ b, dAppend Tryd.prog S 31 31 (.os k 0 0 false) (.sl 5 [] b) = some (.os k 0 0 false, S) := fun b => by
      have hz : (D.agg Wl.zW).cells.length = 4 + 1 := rfl
      have e1 : srcOf S (4 + 1) (.os k 0 0 false) = some [] := by simp only [srcOf, hk]; rfl
      simp only [dAppend, if_true, Wl.elW, show sizeT Tryd.prog 39 = some (4 + 1) from Wl.szW, Wl.zeW, hz, e1, show srcOf S (4 + 1) (.sl 5 [] b) = some [] from rfl, List.length_nil, ↓reduceIte]
    have hc : dClear Tryd.prog S 31 (.os k 0 1 false) = some (S.set k (.row 5 [Wl.zW])) := by
      have hz : (D.agg Wl.zW).cells.length = 4 + 1 ∧ (D.agg Wl.zW).cells.all D.one = true := ⟨rfl, rfl⟩
      simp only [dClear, Wl.elW, show sizeT Tryd.prog 39 = some (4 + 1) from Wl.szW, Wl.zeW, hz, hk, and_self, ↓reduceIte]
      rfl
    refine wo_dcall Tryd.func44 rfl (by decide) rfl 33 rfl (fun a hal ha => ?_)
    have h0 : a[0]? = some (.os k 0 1 false) := ha 0 (by simp)
    have h1 : a[1]? = some (.int .i64 0) := ha 1 (by simp)
    have h2 : a[2]? = some (.int .i64 1) := ha 2 (by simp)
    clear ha
    simp (maxSteps := 1000000) (disch := omega) only [push_cast, ↓wc_seq, ↓wc_block, ↓wc_scope, ↓wc_condL, ↓wc_region, ↓wr_cons, ↓wr_consgL, ↓wr_nil, ↓wo_pickL, ↓wo_callf, ↓wc_exit, ↓wc_ret, ↓wc_skip, ↓wc_wl, wo_some, wo_none, wo_ite, opQ_eq, seqQ_normal, seqQ_exit, seqQ_ret, blockQ_normal, blockQ_exit, blockQ_ret, iterQ_normal, iterQ_exit, iterQ_ret, retQ_normal, retQ_ret, retQ_exit, pickC_true, pickC_false, pickO_true, pickO_false, gstep_tt, gstep_ff, gstep_tf, gstep_ft, gstep_skip, int_bne, int_beq, decide_not, Nat.reduceAdd, Nat.reduceMul, Nat.reduceSub, Nat.reducePow, Nat.reduceLT, Nat.reduceLeDiff, Nat.reduceEqDiff, Int.reduceToNat, Int.reduceAdd, Int.reduceSub, Int.reduceNeg, Int.reduceMul, Int.reduceLT, Int.reduceLE, Int.reduceEq, le_max, ↓wo_build, ↓wo_buildSlice, evParts, ↓reduceIte, planIds, hasExt, cntFs, idxFs, clnFs, ovlFs, List.contains_cons, List.contains_nil, List.any_cons, List.any_nil, Nat.reduceBEq, setC, List.length_set, decide_eq_true_eq, decide_eq_false_iff_not, true_implies, false_implies, forall_const, reduceCtorEq, eq_self, Int.natCast_nonneg, Int.toNat_natCast, Int.ofNat_lt, D.int.injEq, Option.some.injEq, Nat.zero_add, Nat.add_zero, bne_iff_ne, bne_eq_false_iff_eq, beq_iff_eq, beq_eq_false_iff_ne, gt_iff_lt, ne_eq, not_true_eq_false, not_false_eq_true, hal, h0, h1, h2, hk, ha, hc, List.length_cons, List.length_nil, Int.natCast_one, Int.natCast_zero, Option.isNone_none, wrap_ok, Tryd.f44]
  obtain ⟨d, T, ho, rfl, rfl⟩ := this
  exact (callD_genw rfl).trans ho
theorem NewId_c {x : Wt} (hn : 1 ≤ n) : callD E (dcall E n) st S 25 [.agg x.enc] = some (.int .i64 x.id, S) := by
  obtain ⟨m, rfl⟩ : ∃ m, n = m + 1 := ⟨n - 1, by omega⟩
  have : WO (dcall E (m + 1) 25 [.agg x.enc] []) fun d T => d = .int .i64 x.id := by
    refine wo_dcall Tryd.func25 rfl (by decide) rfl 5 rfl (fun a hal ha => ?_)
    have h0 : a[0]? = some (.agg x.enc) := ha 0 (by simp)
    clear ha
    simp only [Wt.enc] at h0
    simp (maxSteps := 1000000) (disch := omega) only [push_cast, ↓wc_seq, ↓wc_block, ↓wc_scope, ↓wc_condL, ↓wc_region, ↓wr_cons, ↓wr_consgL, ↓wr_nil, ↓wo_pickL, ↓wo_callf, ↓wc_exit, ↓wc_ret, ↓wc_skip, ↓wc_wl, wo_some, wo_none, wo_ite, opQ_eq, seqQ_normal, seqQ_exit, seqQ_ret, blockQ_normal, blockQ_exit, blockQ_ret, iterQ_normal, iterQ_exit, iterQ_ret, retQ_normal, retQ_ret, retQ_exit, pickC_true, pickC_false, pickO_true, pickO_false, gstep_tt, gstep_ff, gstep_tf, gstep_ft, gstep_skip, int_bne, int_beq, decide_not, Nat.reduceAdd, Nat.reduceMul, Nat.reduceSub, Nat.reducePow, Nat.reduceLT, Nat.reduceLeDiff, Nat.reduceEqDiff, Int.reduceToNat, Int.reduceAdd, Int.reduceSub, Int.reduceNeg, Int.reduceMul, Int.reduceLT, Int.reduceLE, Int.reduceEq, le_max, ↓wo_build, ↓wo_buildSlice, evParts, ↓reduceIte, planIds, hasExt, cntFs, idxFs, clnFs, ovlFs, List.contains_cons, List.contains_nil, List.any_cons, List.any_nil, Nat.reduceBEq, setC, List.length_set, decide_eq_true_eq, decide_eq_false_iff_not, true_implies, false_implies, forall_const, reduceCtorEq, eq_self, Int.natCast_nonneg, Int.toNat_natCast, Int.ofNat_lt, D.int.injEq, Option.some.injEq, Nat.zero_add, Nat.add_zero, bne_iff_ne, bne_eq_false_iff_eq, beq_iff_eq, beq_eq_false_iff_ne, gt_iff_lt, ne_eq, not_true_eq_false, not_false_eq_true, hal, h0, List.nil_append, List.length_nil, List.getElem?_cons_zero, Tryd.f25]
  obtain ⟨d, T, ho, rfl⟩ := this
  exact callD_pure rfl (by simp [pureL_cons, pureL_nil, D.pure, Wt_pure]) ho rfl
theorem callV_pure {call : Call} {dr : Bool} {S : List Ob} {g : FuncId} {x y l : List D} (hm : E.mode g = .pure) : callV E call dr S (.func g x y) l = callD E call dr S g (x ++ l ++ y) := by
  simp [callV, hm]
theorem findF1_c {k ia ib : Nat} {x : Wt} {items : D} (hn : 2 ≤ n) (ha : S[ia]? = some (.row 1 [[.loc k 0 0]])) (hb : S[ib]? = some (.row 1 [[.int .i64 x.id]])) (h : LiAt S k items) :
    callD E (dcall E n) false S 43 [.agg x.enc, .loc ia 0 0, .loc ib 0 0] = some (.bool true, S ++ [.row 5 [x.enc]]) := by
  obtain ⟨m, rfl⟩ : ∃ m, n = m + 1 := ⟨n - 1, by omega⟩
  have ha' := get_psh ha [Ob.row 5 [x.enc]]
  have hb' := get_psh hb [Ob.row 5 [x.enc]]
  have h' := h.app [.row 5 [x.enc]]
  unfold LiAt fId fOrd at h'
  have cn := fun st S => NewId_c (n := m) (st := st) (S := S) (x := x) (by omega)
  have : WO (dcall E (m + 1) 43 [.agg x.enc, .loc ia 0 0, .loc ib 0 0] S) fun d T => d = .bool true ∧ T = S ++ [.row 5 [x.enc]] := by
    refine wo_dcall Tryd.func43 rfl (by decide) rfl 13 rfl (fun a hal ha => ?_)
    have h0 : a[0]? = some (.agg x.enc) := ha 0 (by simp)
    have h1 : a[1]? = some (.loc ia 0 0) := ha 1 (by simp)
    have h2 : a[2]? = some (.loc ib 0 0) := ha 2 (by simp)
    clear ha
    simp only [Wt.enc] at h0 ha' hb' h' cn
    have cv := fun dr S l => callV_pure (call := dcall E m) (dr := dr) (S := S) (l := l) (x := []) (y := []) (g := 25) rfl
    have t32 : aggT Tryd.prog 32 = some false := by kernel_rfl
    simp (maxSteps := 1000000) (disch := omega) only [push_cast, ↓wc_seq, ↓wc_block, ↓wc_scope, ↓wc_condL, ↓wc_region, ↓wr_cons, ↓wr_consgL, ↓wr_nil, ↓wo_pickL, ↓wo_callf, ↓wc_exit, ↓wc_ret, ↓wc_skip, ↓wc_wl, wo_some, wo_none, wo_ite, opQ_eq, seqQ_normal, seqQ_exit, seqQ_ret, blockQ_normal, blockQ_exit, blockQ_ret, iterQ_normal, iterQ_exit, iterQ_ret, retQ_normal, retQ_ret, retQ_exit, pickC_true, pickC_false, pickO_true, pickO_false, gstep_tt, gstep_ff, gstep_tf, gstep_ft, gstep_skip, int_bne, int_beq, decide_not, Nat.reduceAdd, Nat.reduceMul, Nat.reduceSub, Nat.reducePow, Nat.reduceLT, Nat.reduceLeDiff, Nat.reduceEqDiff, Int.reduceToNat, Int.reduceAdd, Int.reduceSub, Int.reduceNeg, Int.reduceMul, Int.reduceLT, Int.reduceLE, Int.reduceEq, le_max, ↓wo_build, ↓wo_buildSlice, evParts, ↓reduceIte, planIds, hasExt, cntFs, idxFs, clnFs, ovlFs, List.contains_cons, List.contains_nil, List.any_cons, List.any_nil, Nat.reduceBEq, setC, List.length_set, decide_eq_true_eq, decide_eq_false_iff_not, true_implies, false_implies, forall_const, reduceCtorEq, eq_self, Int.natCast_nonneg, Int.toNat_natCast, Int.ofNat_lt, D.int.injEq, Option.some.injEq, Nat.zero_add, Nat.add_zero, bne_iff_ne, bne_eq_false_iff_eq, beq_iff_eq, beq_eq_false_iff_ne, gt_iff_lt, ne_eq, not_true_eq_false, not_false_eq_true, hal, h0, h1, h2, ↓wo_callv, cv, t32, ha', hb', h', cn, get_end, Wt.enc, List.nil_append, List.append_nil, List.cons_append, Tryd.f43]
  obtain ⟨d, T, ho, rfl, rfl⟩ := this
  exact (callD_own rfl (by simp [pureL_cons, D.pure])).trans ho
theorem IdxW1 {q g : Nat} {x : Wt} {ys : List D} {o : Ob} (hn : 2 ≤ n) (hq : S[q]? = some (.row 5 [x.enc])) (hg : callD E (dcall E (n - 1)) false S g (.agg x.enc :: ys) = some (.bool true, S ++ [o])) :
    WO (dcall E n 42 [.os q 0 1 false, .func g [] ys] S) fun d T => d = .int .i64 0 ∧ T = S ++ [o] := by
  obtain ⟨m, rfl⟩ : ∃ m, n = m + 1 := ⟨n - 1, by omega⟩
  rw [Nat.add_sub_cancel] at hg
  simp only [Wt.enc] at hg hq
  refine wo_dcall Tryd.func42 rfl (by decide) rfl 19 rfl (fun a hal ha => ?_)
  have h0 : a[0]? = some (.os q 0 1 false) := ha 0 (by simp)
  have h1 : a[1]? = some (.func g [] ys) := ha 1 (by simp)
  clear ha
  simp (maxSteps := 1000000) (disch := omega) only [push_cast, ↓wc_seq, ↓wc_block, ↓wc_scope, ↓wc_condL, ↓wc_region, ↓wr_cons, ↓wr_consgL, ↓wr_nil, ↓wo_pickL, ↓wo_callf, ↓wc_exit, ↓wc_ret, ↓wc_skip, ↓wc_wl, wo_some, wo_none, wo_ite, opQ_eq, seqQ_normal, seqQ_exit, seqQ_ret, blockQ_normal, blockQ_exit, blockQ_ret, iterQ_normal, iterQ_exit, iterQ_ret, retQ_normal, retQ_ret, retQ_exit, pickC_true, pickC_false, pickO_true, pickO_false, gstep_tt, gstep_ff, gstep_tf, gstep_ft, gstep_skip, int_bne, int_beq, decide_not, Nat.reduceAdd, Nat.reduceMul, Nat.reduceSub, Nat.reducePow, Nat.reduceLT, Nat.reduceLeDiff, Nat.reduceEqDiff, Int.reduceToNat, Int.reduceAdd, Int.reduceSub, Int.reduceNeg, Int.reduceMul, Int.reduceLT, Int.reduceLE, Int.reduceEq, le_max, ↓wo_build, ↓wo_buildSlice, evParts, ↓reduceIte, planIds, hasExt, cntFs, idxFs, clnFs, ovlFs, List.contains_cons, List.contains_nil, List.any_cons, List.any_nil, Nat.reduceBEq, setC, List.length_set, decide_eq_true_eq, decide_eq_false_iff_not, true_implies, false_implies, forall_const, reduceCtorEq, eq_self, Int.natCast_nonneg, Int.toNat_natCast, Int.ofNat_lt, D.int.injEq, Option.some.injEq, Nat.zero_add, Nat.add_zero, bne_iff_ne, bne_eq_false_iff_eq, beq_iff_eq, beq_eq_false_iff_ne, gt_iff_lt, ne_eq, not_true_eq_false, not_false_eq_true, hal, h0, h1]
  refine wl_loop (fun i a T => T = S ∧ a.length = 19 ∧ a[0]? = some (.os q 0 1 false) ∧ a[1]? = some (.func g [] ys) ∧ a[7]? = some (.int .i64 1) ∧ a[8]? = some (.int .i64 0)) 0 ?_ (by omega) ?_
  · simp (maxSteps := 1000000) (disch := omega) only [push_cast, ↓wc_seq, ↓wc_block, ↓wc_scope, ↓wc_condL, ↓wc_region, ↓wr_cons, ↓wr_consgL, ↓wr_nil, ↓wo_pickL, ↓wo_callf, ↓wc_exit, ↓wc_ret, ↓wc_skip, ↓wc_wl, wo_some, wo_none, wo_ite, opQ_eq, seqQ_normal, seqQ_exit, seqQ_ret, blockQ_normal, blockQ_exit, blockQ_ret, iterQ_normal, iterQ_exit, iterQ_ret, retQ_normal, retQ_ret, retQ_exit, pickC_true, pickC_false, pickO_true, pickO_false, gstep_tt, gstep_ff, gstep_tf, gstep_ft, gstep_skip, int_bne, int_beq, decide_not, Nat.reduceAdd, Nat.reduceMul, Nat.reduceSub, Nat.reducePow, Nat.reduceLT, Nat.reduceLeDiff, Nat.reduceEqDiff, Int.reduceToNat, Int.reduceAdd, Int.reduceSub, Int.reduceNeg, Int.reduceMul, Int.reduceLT, Int.reduceLE, Int.reduceEq, le_max, ↓wo_build, ↓wo_buildSlice, evParts, ↓reduceIte, planIds, hasExt, cntFs, idxFs, clnFs, ovlFs, List.contains_cons, List.contains_nil, List.any_cons, List.any_nil, Nat.reduceBEq, setC, List.length_set, decide_eq_true_eq, decide_eq_false_iff_not, true_implies, false_implies, forall_const, reduceCtorEq, eq_self, Int.natCast_nonneg, Int.toNat_natCast, Int.ofNat_lt, D.int.injEq, Option.some.injEq, Nat.zero_add, Nat.add_zero, bne_iff_ne, bne_eq_false_iff_eq, beq_iff_eq, beq_eq_false_iff_ne, gt_iff_lt, ne_eq, not_true_eq_false, not_false_eq_true, hal, h0, h1, Int.natCast_one]
  clear hal h0 h1 a
  rintro i a T hi ⟨rfl, hal, h0, h1, h7, h8⟩
  simp (maxSteps := 1000000) (disch := omega) only [push_cast, ↓wc_seq, ↓wc_block, ↓wc_scope, ↓wc_condL, ↓wc_region, ↓wr_cons, ↓wr_consgL, ↓wr_nil, ↓wo_pickL, ↓wo_callf, ↓wc_exit, ↓wc_ret, ↓wc_skip, ↓wc_wl, wo_some, wo_none, wo_ite, opQ_eq, seqQ_normal, seqQ_exit, seqQ_ret, blockQ_normal, blockQ_exit, blockQ_ret, iterQ_normal, iterQ_exit, iterQ_ret, retQ_normal, retQ_ret, retQ_exit, pickC_true, pickC_false, pickO_true, pickO_false, gstep_tt, gstep_ff, gstep_tf, gstep_ft, gstep_skip, int_bne, int_beq, decide_not, Nat.reduceAdd, Nat.reduceMul, Nat.reduceSub, Nat.reducePow, Nat.reduceLT, Nat.reduceLeDiff, Nat.reduceEqDiff, Int.reduceToNat, Int.reduceAdd, Int.reduceSub, Int.reduceNeg, Int.reduceMul, Int.reduceLT, Int.reduceLE, Int.reduceEq, le_max, ↓wo_build, ↓wo_buildSlice, evParts, ↓reduceIte, planIds, hasExt, cntFs, idxFs, clnFs, ovlFs, List.contains_cons, List.contains_nil, List.any_cons, List.any_nil, Nat.reduceBEq, setC, List.length_set, decide_eq_true_eq, decide_eq_false_iff_not, true_implies, false_implies, forall_const, reduceCtorEq, eq_self, Int.natCast_nonneg, Int.toNat_natCast, Int.ofNat_lt, D.int.injEq, Option.some.injEq, Nat.zero_add, Nat.add_zero, bne_iff_ne, bne_eq_false_iff_eq, beq_iff_eq, beq_eq_false_iff_ne, gt_iff_lt, ne_eq, not_true_eq_false, not_false_eq_true, hal, h0, h1, h7, h8, ↓wo_callv, callV_func, hq, List.nil_append, List.cons_append, hg, Tryd.f42]
theorem Find1 {k : Nat} {x : Wt} (hn : 4 ≤ n) (h : OneAt S k x) : callD E (dcall E n) st S 18 [.loc k 0 0, .int .i64 x.id] = some (.int .i64 0, S) := by
  obtain ⟨m, rfl⟩ : ∃ m, n = m + 1 := ⟨n - 1, by omega⟩
  have : WO (dcall E (m + 1) 18 [.loc k 0 0, .int .i64 x.id] S) fun d T => ∃ J, d = .int .i64 0 ∧ T = S ++ J := by
    obtain ⟨q, h, hq⟩ := h.app [.row 1 [[.loc k 0 0]], .row 1 [[.int .i64 x.id]]]
    have g0 : ∀ x y : Ob, (S ++ [x, y])[S.length]? = some x := fun x y => by simp
    have g1 : ∀ x y : Ob, (S ++ [x, y])[S.length + 1]? = some y := fun x y => by simp
    have c0 := findF1_c (n := m - 1) (ia := S.length) (ib := S.length + 1) (by omega) (g0 _ _) (g1 _ _) h
    obtain ⟨_, _, c1, rfl, rfl⟩ := IdxW1 (n := m) (by omega) hq c0
    have c1 := (callD_own (call := dcall E m) rfl rfl).trans c1
    unfold LiAt at h
    refine wo_dcall Tryd.func18 rfl (by decide) rfl 11 rfl (fun a hal ha => ?_)
    have h0 : a[0]? = some (.loc k 0 0) := ha 0 (by simp)
    have h1 : a[1]? = some (.int .i64 x.id) := ha 1 (by simp)
    clear ha
    simp (maxSteps := 1000000) (disch := omega) only [push_cast, ↓wc_seq, ↓wc_block, ↓wc_scope, ↓wc_condL, ↓wc_region, ↓wr_cons, ↓wr_consgL, ↓wr_nil, ↓wo_pickL, ↓wo_callf, ↓wc_exit, ↓wc_ret, ↓wc_skip, ↓wc_wl, wo_some, wo_none, wo_ite, opQ_eq, seqQ_normal, seqQ_exit, seqQ_ret, blockQ_normal, blockQ_exit, blockQ_ret, iterQ_normal, iterQ_exit, iterQ_ret, retQ_normal, retQ_ret, retQ_exit, pickC_true, pickC_false, pickO_true, pickO_false, gstep_tt, gstep_ff, gstep_tf, gstep_ft, gstep_skip, int_bne, int_beq, decide_not, Nat.reduceAdd, Nat.reduceMul, Nat.reduceSub, Nat.reducePow, Nat.reduceLT, Nat.reduceLeDiff, Nat.reduceEqDiff, Int.reduceToNat, Int.reduceAdd, Int.reduceSub, Int.reduceNeg, Int.reduceMul, Int.reduceLT, Int.reduceLE, Int.reduceEq, le_max, ↓wo_build, ↓wo_buildSlice, evParts, ↓reduceIte, planIds, hasExt, cntFs, idxFs, clnFs, ovlFs, List.contains_cons, List.contains_nil, List.any_cons, List.any_nil, Nat.reduceBEq, setC, List.length_set, decide_eq_true_eq, decide_eq_false_iff_not, true_implies, false_implies, forall_const, reduceCtorEq, eq_self, Int.natCast_nonneg, Int.toNat_natCast, Int.ofNat_lt, D.int.injEq, Option.some.injEq, Nat.zero_add, Nat.add_zero, bne_iff_ne, bne_eq_false_iff_eq, beq_iff_eq, beq_eq_false_iff_ne, gt_iff_lt, ne_eq, not_true_eq_false, not_false_eq_true, hal, h0, h1, List.append_assoc, List.cons_append, List.nil_append, List.length_append, List.length_cons, List.length_nil, g0, h, c1, Tryd.f18]
    exact ⟨_, rfl⟩
  obtain ⟨d, T, ho, J, rfl, rfl⟩ := this
  exact callD_obsJ rfl rfl ho rfl
/-- A list whose last request has left. -/
def GoneAt (S : List Ob) (k : Nat) : Prop := ∃ r es, LiAt S k (.os r 0 0 false) ∧ S[r]? = some (.row 5 es)
theorem remove1 {k : Nat} {x : Wt} (hn : 2 ≤ n) (h : OneAt S k x) : ∃ T, (∀ st, callD E (dcall E n) st S 19 [.loc k 0 0, .int .i64 0] = some (.agg x.enc, T)) ∧ GoneAt T k ∧ ButAt k S T := by
  obtain ⟨m, rfl⟩ : ∃ m, n = m + 1 := ⟨n - 1, by omega⟩
  have : WO (dcall E (m + 1) 19 [.loc k 0 0, .int .i64 0] S) fun d T => d = .agg x.enc ∧ GoneAt T k ∧ ButAt k S T := by
    obtain ⟨q, h1q, hq⟩ := id h
    have hk := lt_of_get h1q
    have w1 := h1q.app [.row 5 [Wl.zW]]
    have hq1 := get_psh hq [Ob.row 5 [Wl.zW]]
    have w2 := w1.app [.row 5 [x.enc]]
    have hq2 := get_psh hq1 [Ob.row 5 [x.enc]]
    have cc := fun st => Clone1 (n := m) (st := st) (by omega) hq2
    have w3 := w2.app [.row 5 [x.enc]]
    have cd := fun st => Delete1 (n := m) (st := st) (S := S ++ [Ob.row 5 [Wl.zW]] ++ [Ob.row 5 [x.enc]] ++ [Ob.row 5 [x.enc]]) (k := (S ++ [Ob.row 5 [Wl.zW]] ++ [Ob.row 5 [x.enc]]).length) (by omega) get_end
    have hm : S.length ≤ (S ++ [Ob.row 5 [Wl.zW]] ++ [Ob.row 5 [x.enc]]).length := by simp
    have hb := ((((ButAt.push (k := k) (S := S) [Ob.row 5 [Wl.zW]]).trans (ButAt.push [Ob.row 5 [x.enc]])).trans (ButAt.push [Ob.row 5 [x.enc]])).setn (.row 5 [Wl.zW]) hm)
    have w4 : LiAt ((S ++ [Ob.row 5 [Wl.zW]] ++ [Ob.row 5 [x.enc]] ++ [Ob.row 5 [x.enc]]).set (S ++ [Ob.row 5 [Wl.zW]] ++ [Ob.row 5 [x.enc]]).length (.row 5 [Wl.zW])) k (.os q 0 1 false) := by
      unfold LiAt at w3 ⊢
      rw [List.getElem?_set_ne (by omega)]
      exact w3
    generalize hV : (S ++ [Ob.row 5 [Wl.zW]] ++ [Ob.row 5 [x.enc]] ++ [Ob.row 5 [x.enc]]).set (S ++ [Ob.row 5 [Wl.zW]] ++ [Ob.row 5 [x.enc]]).length (.row 5 [Wl.zW]) = V at *
    have gt4 : ∀ R, (V.set k R)[S.length]? = some (.row 5 [Wl.zW]) := fun R => by
      rw [List.getElem?_set_ne (by omega), ← hV, List.getElem?_set_ne (by simp <;> omega)]
      exact get_psh (get_psh get_end _) _
    have gt5 : ∀ R, (V.set k R)[(S ++ [Ob.row 5 [Wl.zW]]).length]? = some (.row 5 [x.enc]) := fun R => by
      rw [List.getElem?_set_ne (by simp <;> omega), ← hV, List.getElem?_set_ne (by simp)]
      exact get_psh get_end _
    have gr : ∀ R o, ((V.set k R).set S.length o)[S.length]? = some o := fun R o => List.getElem?_set_self (lt_of_get (gt4 R))
    have hgone : ∀ o, GoneAt ((V.set k (.row 4 [[.os (S ++ [Ob.row 5 [Wl.zW]] ++ [Ob.row 5 [x.enc]]).length 0 0 false, fId, fOrd, .bool true]])).set S.length o) k := fun o => by
      refine ⟨(S ++ [Ob.row 5 [Wl.zW]] ++ [Ob.row 5 [x.enc]]).length, [Wl.zW], ?_, ?_⟩
      · unfold LiAt
        rw [List.getElem?_set_ne (by omega), List.getElem?_set_self (lt_of_get w4)]
      · rw [List.getElem?_set_ne (by simp), List.getElem?_set_ne (by simp <;> omega), ← hV, List.getElem?_set_self (by simp)]
    have hbut : ∀ R o, ButAt k S ((V.set k R).set S.length o) := fun R o => (hb.trans (ButAt.set R)).setn o (Nat.le_refl _)
    unfold LiAt at w1 w2 w4
    simp only [Wl.zW, Wt.enc] at w1 w2 w4 hq1 cc cd gt4 gt5 hgone
    refine wo_dcall Tryd.func19 rfl (by decide) rfl 26 rfl (fun a hal ha => ?_)
    have h0 : a[0]? = some (.loc k 0 0) := ha 0 (by simp)
    have h1 : a[1]? = some (.int .i64 0) := ha 1 (by simp)
    clear ha
    simp (maxSteps := 1000000) (disch := omega) only [push_cast, ↓wc_seq, ↓wc_block, ↓wc_scope, ↓wc_condL, ↓wc_region, ↓wr_cons, ↓wr_consgL, ↓wr_nil, ↓wo_pickL, ↓wo_callf, ↓wc_exit, ↓wc_ret, ↓wc_skip, ↓wc_wl, wo_some, wo_none, wo_ite, opQ_eq, seqQ_normal, seqQ_exit, seqQ_ret, blockQ_normal, blockQ_exit, blockQ_ret, iterQ_normal, iterQ_exit, iterQ_ret, retQ_normal, retQ_ret, retQ_exit, pickC_true, pickC_false, pickO_true, pickO_false, gstep_tt, gstep_ff, gstep_tf, gstep_ft, gstep_skip, int_bne, int_beq, decide_not, Nat.reduceAdd, Nat.reduceMul, Nat.reduceSub, Nat.reducePow, Nat.reduceLT, Nat.reduceLeDiff, Nat.reduceEqDiff, Int.reduceToNat, Int.reduceAdd, Int.reduceSub, Int.reduceNeg, Int.reduceMul, Int.reduceLT, Int.reduceLE, Int.reduceEq, le_max, ↓wo_build, ↓wo_buildSlice, evParts, ↓reduceIte, planIds, hasExt, cntFs, idxFs, clnFs, ovlFs, List.contains_cons, List.contains_nil, List.any_cons, List.any_nil, Nat.reduceBEq, setC, List.length_set, decide_eq_true_eq, decide_eq_false_iff_not, true_implies, false_implies, forall_const, reduceCtorEq, eq_self, Int.natCast_nonneg, Int.toNat_natCast, Int.ofNat_lt, D.int.injEq, Option.some.injEq, Nat.zero_add, Nat.add_zero, bne_iff_ne, bne_eq_false_iff_eq, beq_iff_eq, beq_eq_false_iff_ne, gt_iff_lt, ne_eq, not_true_eq_false, not_false_eq_true, hal, h0, h1, w1, w2, w4, hq1, cc, cd, gt4, gt5, gr, get_end, set_end, wrap_ok, Tryd.f19]
    exact ⟨rfl, hgone _, hbut _ _⟩
  obtain ⟨d, T, ho, rfl, h1, h2⟩ := this
  exact ⟨T, fun st => (callD_genw rfl).trans ho, h1, h2⟩
theorem Leave1 {k : Nat} {x : Wt} (hn : 6 ≤ n) (h : OneAt S k x) : ∃ T, (∀ st, callD E (dcall E n) st S 7 [.loc k 0 0, .int .i64 x.id] = some (.tup [.agg x.enc, .int .i64 0], T)) ∧ GoneAt T k ∧ ButAt k S T := by
  obtain ⟨m, rfl⟩ : ∃ m, n = m + 1 := ⟨n - 1, by omega⟩
  have : WO (dcall E (m + 1) 7 [.loc k 0 0, .int .i64 x.id] S) fun d T => d = .tup [.agg x.enc, .int .i64 0] ∧ GoneAt T k ∧ ButAt k S T := by
    have w1 := h.app [.row 5 [Wl.zW]]
    have cf := fun st => Find1 (n := m) (st := st) (by omega) w1
    obtain ⟨T, cr, hg, hb⟩ := remove1 (n := m) (by omega) w1
    have hk := lt_of_get h.choose_spec.1
    have gz : T[S.length]? = some (.row 5 [Wl.zW]) := by
      rw [hb.2 S.length (by simp) (by omega)]
      exact get_end
    have gr : ∀ o, (T.set S.length o)[S.length]? = some o := fun o => List.getElem?_set_self (lt_of_get gz)
    have hg' : ∀ e : List (List D), GoneAt (T.set S.length (.row 5 e)) k := fun e => by
      obtain ⟨r, es, q1, q2⟩ := hg
      unfold LiAt at q1
      by_cases hr : r = S.length
      · subst hr
        exact ⟨S.length, e, by unfold LiAt; rw [List.getElem?_set_ne (by omega)]; exact q1, gr _⟩
      · exact ⟨r, es, by unfold LiAt; rw [List.getElem?_set_ne (by omega)]; exact q1, by rw [List.getElem?_set_ne (by omega)]; exact q2⟩
    have hb' : ∀ o, ButAt k S (T.set S.length o) := fun o => ((ButAt.push _).trans hb).setn o (Nat.le_refl _)
    obtain ⟨q, w2, -⟩ := w1
    unfold LiAt at w2
    simp only [Wl.zW, Wt.enc] at w2 cf cr gz
    refine wo_dcall Tryd.func7 rfl (by decide) rfl 30 rfl (fun a hal ha => ?_)
    have h0 : a[0]? = some (.loc k 0 0) := ha 0 (by simp)
    have h1 : a[1]? = some (.int .i64 x.id) := ha 1 (by simp)
    clear ha
    simp (maxSteps := 1000000) (disch := omega) only [push_cast, ↓wc_seq, ↓wc_block, ↓wc_scope, ↓wc_condL, ↓wc_region, ↓wr_cons, ↓wr_consgL, ↓wr_nil, ↓wo_pickL, ↓wo_callf, ↓wc_exit, ↓wc_ret, ↓wc_skip, ↓wc_wl, wo_some, wo_none, wo_ite, opQ_eq, seqQ_normal, seqQ_exit, seqQ_ret, blockQ_normal, blockQ_exit, blockQ_ret, iterQ_normal, iterQ_exit, iterQ_ret, retQ_normal, retQ_ret, retQ_exit, pickC_true, pickC_false, pickO_true, pickO_false, gstep_tt, gstep_ff, gstep_tf, gstep_ft, gstep_skip, int_bne, int_beq, decide_not, Nat.reduceAdd, Nat.reduceMul, Nat.reduceSub, Nat.reducePow, Nat.reduceLT, Nat.reduceLeDiff, Nat.reduceEqDiff, Int.reduceToNat, Int.reduceAdd, Int.reduceSub, Int.reduceNeg, Int.reduceMul, Int.reduceLT, Int.reduceLE, Int.reduceEq, le_max, ↓wo_build, ↓wo_buildSlice, evParts, ↓reduceIte, planIds, hasExt, cntFs, idxFs, clnFs, ovlFs, List.contains_cons, List.contains_nil, List.any_cons, List.any_nil, Nat.reduceBEq, setC, List.length_set, decide_eq_true_eq, decide_eq_false_iff_not, true_implies, false_implies, forall_const, reduceCtorEq, eq_self, Int.natCast_nonneg, Int.toNat_natCast, Int.ofNat_lt, D.int.injEq, Option.some.injEq, Nat.zero_add, Nat.add_zero, bne_iff_ne, bne_eq_false_iff_eq, beq_iff_eq, beq_eq_false_iff_ne, gt_iff_lt, ne_eq, not_true_eq_false, not_false_eq_true, hal, h0, h1, eqp_list1, w2, dUn, cf, cr, gz, gr, Int.lt_irrefl, Tryd.f7]
    exact ⟨rfl, hg' _, hb' _⟩
  obtain ⟨d, T, ho, rfl, h1, h2⟩ := this
  exact ⟨T, fun st => (callD_genw rfl).trans ho, h1, h2⟩
/-- The order of a list whose last request has left. -/
theorem OrderG {k : Nat} (hn : 2 ≤ n) (h : GoneAt S k) : callD E (dcall E n) st S 10 [.loc k 0 0] = some (.sl 5 [] true, S) := by
  obtain ⟨m, rfl⟩ : ∃ m, n = m + 2 := ⟨n - 2, by omega⟩
  obtain ⟨r, es, h, hr⟩ := h
  have : WO (dcall E (m + 1) 24 [.os r 0 0 false] S) fun d T => d = .sl 5 [] true ∧ T = S := by
    have e0 : dEq Tryd.prog 10000 31 (.os r 0 0 false) .nils = some false := by rw [show (10000 : Nat) = 9999 + 1 from rfl]; simp only [dEq, Tryd.underlying31]
    have ha : dAppend Tryd.prog S 31 31 (.sl 5 [] true) (.os r 0 0 false) = some (.sl 5 [] true, S) := by
      have hz : (D.agg Wl.zW).cells.length = 4 + 1 := rfl
      have e1 : srcOf S (4 + 1) (.os r 0 0 false) = some [] := by simp only [srcOf, hr]; simp
      simp only [dAppend, if_true, Wl.elW, show sizeT Tryd.prog 39 = some (4 + 1) from Wl.szW, Wl.zeW, hz, e1, show srcOf S (4 + 1) (.sl 5 [] true) = some [] from rfl, List.length_nil, ↓reduceIte]
    refine wo_dcall Tryd.func24 rfl (by decide) rfl 8 rfl (fun a hal ha => ?_)
    have h0 : a[0]? = some (.os r 0 0 false) := ha 0 (by simp)
    clear ha
    simp (maxSteps := 1000000) (disch := omega) only [push_cast, ↓wc_seq, ↓wc_block, ↓wc_scope, ↓wc_condL, ↓wc_region, ↓wr_cons, ↓wr_consgL, ↓wr_nil, ↓wo_pickL, ↓wo_callf, ↓wc_exit, ↓wc_ret, ↓wc_skip, ↓wc_wl, wo_some, wo_none, wo_ite, opQ_eq, seqQ_normal, seqQ_exit, seqQ_ret, blockQ_normal, blockQ_exit, blockQ_ret, iterQ_normal, iterQ_exit, iterQ_ret, retQ_normal, retQ_ret, retQ_exit, pickC_true, pickC_false, pickO_true, pickO_false, gstep_tt, gstep_ff, gstep_tf, gstep_ft, gstep_skip, int_bne, int_beq, decide_not, Nat.reduceAdd, Nat.reduceMul, Nat.reduceSub, Nat.reducePow, Nat.reduceLT, Nat.reduceLeDiff, Nat.reduceEqDiff, Int.reduceToNat, Int.reduceAdd, Int.reduceSub, Int.reduceNeg, Int.reduceMul, Int.reduceLT, Int.reduceLE, Int.reduceEq, le_max, ↓wo_build, ↓wo_buildSlice, evParts, ↓reduceIte, planIds, hasExt, cntFs, idxFs, clnFs, ovlFs, List.contains_cons, List.contains_nil, List.any_cons, List.any_nil, Nat.reduceBEq, setC, List.length_set, decide_eq_true_eq, decide_eq_false_iff_not, true_implies, false_implies, forall_const, reduceCtorEq, eq_self, Int.natCast_nonneg, Int.toNat_natCast, Int.ofNat_lt, D.int.injEq, Option.some.injEq, Nat.zero_add, Nat.add_zero, bne_iff_ne, bne_eq_false_iff_eq, beq_iff_eq, beq_eq_false_iff_ne, gt_iff_lt, ne_eq, not_true_eq_false, not_false_eq_true, hal, h0, e0, ha, Tryd.f24]
  obtain ⟨_, _, hc, rfl, rfl⟩ := this
  have cl := fun st => callD_ext (call := dcall E (m + 1)) (st := st) (J := []) (f := 24) rfl (by rw [List.append_nil]; exact hc)
  simp only [List.append_nil] at cl
  rename_i S
  have : WO (dcall E (m + 2) 10 [.loc k 0 0] S) fun d T => d = .sl 5 [] true ∧ T = S := by
    unfold LiAt at h
    refine wo_dcall Tryd.func10 rfl (by decide) rfl 11 rfl (fun a hal ha => ?_)
    have h0 : a[0]? = some (.loc k 0 0) := ha 0 (by simp)
    clear ha
    simp (maxSteps := 1000000) (disch := omega) only [push_cast, ↓wc_seq, ↓wc_block, ↓wc_scope, ↓wc_condL, ↓wc_region, ↓wr_cons, ↓wr_consgL, ↓wr_nil, ↓wo_pickL, ↓wo_callf, ↓wc_exit, ↓wc_ret, ↓wc_skip, ↓wc_wl, wo_some, wo_none, wo_ite, opQ_eq, seqQ_normal, seqQ_exit, seqQ_ret, blockQ_normal, blockQ_exit, blockQ_ret, iterQ_normal, iterQ_exit, iterQ_ret, retQ_normal, retQ_ret, retQ_exit, pickC_true, pickC_false, pickO_true, pickO_false, gstep_tt, gstep_ff, gstep_tf, gstep_ft, gstep_skip, int_bne, int_beq, decide_not, Nat.reduceAdd, Nat.reduceMul, Nat.reduceSub, Nat.reducePow, Nat.reduceLT, Nat.reduceLeDiff, Nat.reduceEqDiff, Int.reduceToNat, Int.reduceAdd, Int.reduceSub, Int.reduceNeg, Int.reduceMul, Int.reduceLT, Int.reduceLE, Int.reduceEq, le_max, ↓wo_build, ↓wo_buildSlice, evParts, ↓reduceIte, planIds, hasExt, cntFs, idxFs, clnFs, ovlFs, List.contains_cons, List.contains_nil, List.any_cons, List.any_nil, Nat.reduceBEq, setC, List.length_set, decide_eq_true_eq, decide_eq_false_iff_not, true_implies, false_implies, forall_const, reduceCtorEq, eq_self, Int.natCast_nonneg, Int.toNat_natCast, Int.ofNat_lt, D.int.injEq, Option.some.injEq, Nat.zero_add, Nat.add_zero, bne_iff_ne, bne_eq_false_iff_eq, beq_iff_eq, beq_eq_false_iff_ne, gt_iff_lt, ne_eq, not_true_eq_false, not_false_eq_true, hal, h0, eqp_list1, h, cl, Tryd.f10]
  obtain ⟨d, T, ho, rfl, rfl⟩ := this
  have := callD_ext (call := dcall E (m + 2)) (st := st) (J := []) (f := 10) rfl (by rw [List.append_nil]; exact ho)
  rw [List.append_nil] at this
  exact this
end
end Go.Proofs.YtajhgnefcddenaaDoor.Dm
namespace Go.Proofs.YtajhgnefcddenaaDoor.Dm
open Go Gw
set_option linter.unusedSimpArgs false
set_option linter.unusedSimpArgs false

theorem SAt.but {S T : List Ob} {lab : Lab} {o k p : Nat} {s : Stk} (h : SAt S lab o p s) (hk : lab k = []) (hb : ButAt k S T) : SAt T lab o p s := by
  obtain ⟨hf, m, ps, h⟩ := h
  refine ⟨fun x hx => hf x (Nat.le_trans hb.1 hx), m, ps, h.keep fun x ob t hx hl => ⟨?_, hl⟩⟩
  rw [hb.2 x (lt_of_get hx) (by rintro rfl; rw [hk] at hl; cases hl)]
  exact hx
theorem SLeft_c {S : List Ob} {lab : Lab} {o k n : Nat} {s : Stk} {id : Lid} (hn : 180 ≤ n) (h : SAt S lab o k s) (ok : StkOk 9999 s) (hid : id.Ok) (cl : ByteArray) (st : Bool) :
    callD E (dcall E n) st S 16 [.loc k 0 0, .agg id.enc, .str cl] = some (.int .i64 (s.left id cl), S) := by
  obtain ⟨-, m, ps, h⟩ := h
  exact Left_c hn h ok hid cl st
section
variable {n : Nat} {S : List Ob} {st : Bool} {lab : Lab} {o p : Nat} {s : Stk}
theorem served1_s {x : Wt} {w : Lid} {i j : Nat} {b : Bool} (hn : 200 ≤ n) (hi : S[i]? = some (.row 1 [[.loc p 0 0]])) (hj : S[j]? = some (.row 5 [x.enc])) (hs : SAt S lab o p s) (ok : StkOk 9999 s) (hw : w.Ok) (hb : decide (s.left w x.cl < x.cnt) = b) :
    callD E (dcall E n) false S 46 [.agg w.enc, .loc i 0 0, .loc j 0 0] = some (.bool b, S ++ [.row 4 [w.enc]]) := by
  obtain ⟨m, rfl⟩ : ∃ m, n = m + 1 := ⟨n - 1, by omega⟩
  have hi' := get_psh hi [Ob.row 4 [w.enc]]
  have hj' := get_psh hj [Ob.row 4 [w.enc]]
  have cl := fun st => SLeft_c (n := m) (id := w) (by omega) (hs.push [Ob.row 4 [w.enc]]) ok hw x.cl st
  have : WO (dcall E (m + 1) 46 [.agg w.enc, .loc i 0 0, .loc j 0 0] S) fun d T => d = .bool b ∧ T = S ++ [.row 4 [w.enc]] := by
    refine wo_dcall Tryd.func46 rfl (by decide) rfl 13 rfl (fun a hal ha => ?_)
    have h0 : a[0]? = some (.agg w.enc) := ha 0 (by simp)
    have h1 : a[1]? = some (.loc i 0 0) := ha 1 (by simp)
    have h2 : a[2]? = some (.loc j 0 0) := ha 2 (by simp)
    clear ha
    simp only [Lid.enc, Wt.enc] at h0 hi' hj' cl
    simp (maxSteps := 1000000) (disch := omega) only [push_cast, ↓wc_seq, ↓wc_block, ↓wc_scope, ↓wc_condL, ↓wc_region, ↓wr_cons, ↓wr_consgL, ↓wr_nil, ↓wo_pickL, ↓wo_callf, ↓wc_exit, ↓wc_ret, ↓wc_skip, ↓wc_wl, wo_some, wo_none, wo_ite, opQ_eq, seqQ_normal, seqQ_exit, seqQ_ret, blockQ_normal, blockQ_exit, blockQ_ret, iterQ_normal, iterQ_exit, iterQ_ret, retQ_normal, retQ_ret, retQ_exit, pickC_true, pickC_false, pickO_true, pickO_false, gstep_tt, gstep_ff, gstep_tf, gstep_ft, gstep_skip, int_bne, int_beq, decide_not, Nat.reduceAdd, Nat.reduceMul, Nat.reduceSub, Nat.reducePow, Nat.reduceLT, Nat.reduceLeDiff, Nat.reduceEqDiff, Int.reduceToNat, Int.reduceAdd, Int.reduceSub, Int.reduceNeg, Int.reduceMul, Int.reduceLT, Int.reduceLE, Int.reduceEq, le_max, ↓wo_build, ↓wo_buildSlice, evParts, ↓reduceIte, planIds, hasExt, cntFs, idxFs, clnFs, ovlFs, List.contains_cons, List.contains_nil, List.any_cons, List.any_nil, Nat.reduceBEq, setC, List.length_set, decide_eq_true_eq, decide_eq_false_iff_not, true_implies, false_implies, forall_const, reduceCtorEq, eq_self, Int.natCast_nonneg, Int.toNat_natCast, Int.ofNat_lt, D.int.injEq, Option.some.injEq, Nat.zero_add, Nat.add_zero, bne_iff_ne, bne_eq_false_iff_eq, beq_iff_eq, beq_eq_false_iff_ne, gt_iff_lt, ne_eq, not_true_eq_false, not_false_eq_true, hal, h0, h1, h2, hi', hj', cl, hb, get_end, Lid.enc, Tryd.f46]
  obtain ⟨d, T, ho, rfl, rfl⟩ := this
  exact (callD_own rfl (by simp [pureL_cons, D.pure])).trans ho
theorem IdxL0 {w : Lid} {lx : Bool} {g : Nat} {ys : List D} {o : Ob} (hn : 3 ≤ n) (hg : callD E (dcall E (n - 1)) false S g (.agg w.enc :: ys) = some (.bool false, S ++ [o])) :
    WO (dcall E n 61 [.sl 4 [w.enc] lx, .func g [] ys] S) fun d T => d = .int .i64 (-1) ∧ T = S ++ [o] := by
  obtain ⟨m, rfl⟩ : ∃ m, n = m + 1 := ⟨n - 1, by omega⟩
  rw [Nat.add_sub_cancel] at hg
  simp only [Lid.enc] at hg
  refine wo_dcall Tryd.func61 rfl (by decide) rfl 19 rfl (fun a hal ha => ?_)
  have h0 : a[0]? = some (.sl 4 [w.enc] lx) := ha 0 (by simp)
  have h1 : a[1]? = some (.func g [] ys) := ha 1 (by simp)
  clear ha
  simp (maxSteps := 1000000) (disch := omega) only [push_cast, ↓wc_seq, ↓wc_block, ↓wc_scope, ↓wc_condL, ↓wc_region, ↓wr_cons, ↓wr_consgL, ↓wr_nil, ↓wo_pickL, ↓wo_callf, ↓wc_exit, ↓wc_ret, ↓wc_skip, ↓wc_wl, wo_some, wo_none, wo_ite, opQ_eq, seqQ_normal, seqQ_exit, seqQ_ret, blockQ_normal, blockQ_exit, blockQ_ret, iterQ_normal, iterQ_exit, iterQ_ret, retQ_normal, retQ_ret, retQ_exit, pickC_true, pickC_false, pickO_true, pickO_false, gstep_tt, gstep_ff, gstep_tf, gstep_ft, gstep_skip, int_bne, int_beq, decide_not, Nat.reduceAdd, Nat.reduceMul, Nat.reduceSub, Nat.reducePow, Nat.reduceLT, Nat.reduceLeDiff, Nat.reduceEqDiff, Int.reduceToNat, Int.reduceAdd, Int.reduceSub, Int.reduceNeg, Int.reduceMul, Int.reduceLT, Int.reduceLE, Int.reduceEq, le_max, ↓wo_build, ↓wo_buildSlice, evParts, ↓reduceIte, planIds, hasExt, cntFs, idxFs, clnFs, ovlFs, List.contains_cons, List.contains_nil, List.any_cons, List.any_nil, Nat.reduceBEq, setC, List.length_set, decide_eq_true_eq, decide_eq_false_iff_not, true_implies, false_implies, forall_const, reduceCtorEq, eq_self, Int.natCast_nonneg, Int.toNat_natCast, Int.ofNat_lt, D.int.injEq, Option.some.injEq, Nat.zero_add, Nat.add_zero, bne_iff_ne, bne_eq_false_iff_eq, beq_iff_eq, beq_eq_false_iff_ne, gt_iff_lt, ne_eq, not_true_eq_false, not_false_eq_true, hal, h0, h1, List.length_cons, List.length_nil]
  refine wl_loop (fun i a T => T = (if i = 0 then S else S ++ [o]) ∧ a.length = 19 ∧ a[0]? = some (.sl 4 [w.enc] lx) ∧ a[1]? = some (.func g [] ys) ∧ a[7]? = some (.int .i64 1) ∧ a[8]? = some (.int .i64 i)) 1 ?_ (by omega) ?_
  · simp (maxSteps := 1000000) (disch := omega) only [push_cast, ↓wc_seq, ↓wc_block, ↓wc_scope, ↓wc_condL, ↓wc_region, ↓wr_cons, ↓wr_consgL, ↓wr_nil, ↓wo_pickL, ↓wo_callf, ↓wc_exit, ↓wc_ret, ↓wc_skip, ↓wc_wl, wo_some, wo_none, wo_ite, opQ_eq, seqQ_normal, seqQ_exit, seqQ_ret, blockQ_normal, blockQ_exit, blockQ_ret, iterQ_normal, iterQ_exit, iterQ_ret, retQ_normal, retQ_ret, retQ_exit, pickC_true, pickC_false, pickO_true, pickO_false, gstep_tt, gstep_ff, gstep_tf, gstep_ft, gstep_skip, int_bne, int_beq, decide_not, Nat.reduceAdd, Nat.reduceMul, Nat.reduceSub, Nat.reducePow, Nat.reduceLT, Nat.reduceLeDiff, Nat.reduceEqDiff, Int.reduceToNat, Int.reduceAdd, Int.reduceSub, Int.reduceNeg, Int.reduceMul, Int.reduceLT, Int.reduceLE, Int.reduceEq, le_max, ↓wo_build, ↓wo_buildSlice, evParts, ↓reduceIte, planIds, hasExt, cntFs, idxFs, clnFs, ovlFs, List.contains_cons, List.contains_nil, List.any_cons, List.any_nil, Nat.reduceBEq, setC, List.length_set, decide_eq_true_eq, decide_eq_false_iff_not, true_implies, false_implies, forall_const, reduceCtorEq, eq_self, Int.natCast_nonneg, Int.toNat_natCast, Int.ofNat_lt, D.int.injEq, Option.some.injEq, Nat.zero_add, Nat.add_zero, bne_iff_ne, bne_eq_false_iff_eq, beq_iff_eq, beq_eq_false_iff_ne, gt_iff_lt, ne_eq, not_true_eq_false, not_false_eq_true, hal, h0, h1, Int.natCast_one, Int.natCast_zero]
  clear hal h0 h1 a
  rintro i a T hi ⟨rfl, hal, h0, h1, h7, h8⟩
  rcases Nat.lt_or_eq_of_le hi with hlt | rfl
  case inr =>
    simp (maxSteps := 1000000) (disch := omega) only [push_cast, ↓wc_seq, ↓wc_block, ↓wc_scope, ↓wc_condL, ↓wc_region, ↓wr_cons, ↓wr_consgL, ↓wr_nil, ↓wo_pickL, ↓wo_callf, ↓wc_exit, ↓wc_ret, ↓wc_skip, ↓wc_wl, wo_some, wo_none, wo_ite, opQ_eq, seqQ_normal, seqQ_exit, seqQ_ret, blockQ_normal, blockQ_exit, blockQ_ret, iterQ_normal, iterQ_exit, iterQ_ret, retQ_normal, retQ_ret, retQ_exit, pickC_true, pickC_false, pickO_true, pickO_false, gstep_tt, gstep_ff, gstep_tf, gstep_ft, gstep_skip, int_bne, int_beq, decide_not, Nat.reduceAdd, Nat.reduceMul, Nat.reduceSub, Nat.reducePow, Nat.reduceLT, Nat.reduceLeDiff, Nat.reduceEqDiff, Int.reduceToNat, Int.reduceAdd, Int.reduceSub, Int.reduceNeg, Int.reduceMul, Int.reduceLT, Int.reduceLE, Int.reduceEq, le_max, ↓wo_build, ↓wo_buildSlice, evParts, ↓reduceIte, planIds, hasExt, cntFs, idxFs, clnFs, ovlFs, List.contains_cons, List.contains_nil, List.any_cons, List.any_nil, Nat.reduceBEq, setC, List.length_set, decide_eq_true_eq, decide_eq_false_iff_not, true_implies, false_implies, forall_const, reduceCtorEq, eq_self, Int.natCast_nonneg, Int.toNat_natCast, Int.ofNat_lt, D.int.injEq, Option.some.injEq, Nat.zero_add, Nat.add_zero, bne_iff_ne, bne_eq_false_iff_eq, beq_iff_eq, beq_eq_false_iff_ne, gt_iff_lt, ne_eq, not_true_eq_false, not_false_eq_true, hal, h0, h1, h7, h8, Int.natCast_one, Int.lt_irrefl, Nat.one_ne_zero, if_false, Tryd.f61]
  obtain rfl : i = 0 := by omega
  rw [if_pos rfl]
  simp (maxSteps := 1000000) (disch := omega) only [push_cast, ↓wc_seq, ↓wc_block, ↓wc_scope, ↓wc_condL, ↓wc_region, ↓wr_cons, ↓wr_consgL, ↓wr_nil, ↓wo_pickL, ↓wo_callf, ↓wc_exit, ↓wc_ret, ↓wc_skip, ↓wc_wl, wo_some, wo_none, wo_ite, opQ_eq, seqQ_normal, seqQ_exit, seqQ_ret, blockQ_normal, blockQ_exit, blockQ_ret, iterQ_normal, iterQ_exit, iterQ_ret, retQ_normal, retQ_ret, retQ_exit, pickC_true, pickC_false, pickO_true, pickO_false, gstep_tt, gstep_ff, gstep_tf, gstep_ft, gstep_skip, int_bne, int_beq, decide_not, Nat.reduceAdd, Nat.reduceMul, Nat.reduceSub, Nat.reducePow, Nat.reduceLT, Nat.reduceLeDiff, Nat.reduceEqDiff, Int.reduceToNat, Int.reduceAdd, Int.reduceSub, Int.reduceNeg, Int.reduceMul, Int.reduceLT, Int.reduceLE, Int.reduceEq, le_max, ↓wo_build, ↓wo_buildSlice, evParts, ↓reduceIte, planIds, hasExt, cntFs, idxFs, clnFs, ovlFs, List.contains_cons, List.contains_nil, List.any_cons, List.any_nil, Nat.reduceBEq, setC, List.length_set, decide_eq_true_eq, decide_eq_false_iff_not, true_implies, false_implies, forall_const, reduceCtorEq, eq_self, Int.natCast_nonneg, Int.toNat_natCast, Int.ofNat_lt, D.int.injEq, Option.some.injEq, Nat.zero_add, Nat.add_zero, bne_iff_ne, bne_eq_false_iff_eq, beq_iff_eq, beq_eq_false_iff_ne, gt_iff_lt, ne_eq, not_true_eq_false, not_false_eq_true, hal, h0, h1, h7, h8, ↓wo_callv, callV_func, Int.natCast_zero, List.getElem?_cons_zero, List.nil_append, List.cons_append, Lid.enc, hg, wrap_ok, Int.natCast_one, Nat.one_ne_zero, if_false]
theorem served_s {x : Wt} {w : Lid} {b : Bool} (hn : 300 ≤ n) (hw : x.legs = [w]) (hwo : w.Ok) (hs : SAt S lab o p s) (ok : StkOk 9999 s) (hb : decide (s.left w x.cl < x.cnt) = b) : callD E (dcall E n) st S 20 [.agg x.enc, .loc p 0 0] = some (.bool (!b), S) := by
  obtain ⟨m, rfl⟩ : ∃ m, n = m + 3 := ⟨n - 3, by omega⟩
  have : WO (dcall E (m + 3) 20 [.agg x.enc, .loc p 0 0] S) fun d T => ∃ J, d = .bool (!b) ∧ T = S ++ J := by
    have g0 : (S ++ [Ob.row 5 [x.enc], Ob.row 1 [[.loc p 0 0]]])[S.length]? = some (Ob.row 5 [x.enc]) := by simp
    have g1 : (S ++ [Ob.row 5 [x.enc], Ob.row 1 [[.loc p 0 0]]])[S.length + 1]? = some (Ob.row 1 [[.loc p 0 0]]) := by simp
    have c1 := served1_s (n := m) (w := w) (by omega) g1 g0 (hs.push _) ok hwo hb
    have c2 : callD E (dcall E (m + 1)) false (S ++ [Ob.row 5 [x.enc], Ob.row 1 [[.loc p 0 0]]]) 61 [.sl 4 [w.enc] x.legsx, .func 46 [] [.loc (S.length + 1) 0 0, .loc S.length 0 0]] = some (.int .i64 (if b then 0 else -1), S ++ [Ob.row 5 [x.enc], Ob.row 1 [[.loc p 0 0]]] ++ [.row 4 [w.enc]]) := by
      refine (callD_own (call := dcall E (m + 1)) rfl (by simp [pureL_cons, D.pure])).trans ?_
      cases b
      · obtain ⟨d2, T2, c2, rfl, rfl⟩ := IdxL0 (n := m + 1) (lx := x.legsx) (by omega) c1
        exact c2
      · obtain ⟨d2, T2, c2, rfl, rfl⟩ := IdxL1 (n := m + 1) (l := []) (lx := x.legsx) (by omega) c1
        exact c2
    have c3 : WO (dcall E (m + 2) 45 [.sl 4 [w.enc] x.legsx, .func 46 [] [.loc (S.length + 1) 0 0, .loc S.length 0 0]] (S ++ [Ob.row 5 [x.enc], Ob.row 1 [[.loc p 0 0]]])) fun d T => d = .bool b ∧ T = S ++ [Ob.row 5 [x.enc], Ob.row 1 [[.loc p 0 0]]] ++ [.row 4 [w.enc]] := by
      refine wo_dcall Tryd.func45 rfl (by decide) rfl 9 rfl (fun a hal ha => ?_)
      have h0 : a[0]? = some (.sl 4 [w.enc] x.legsx) := ha 0 (by simp)
      have h1 : a[1]? = some (.func 46 [] [.loc (S.length + 1) 0 0, .loc S.length 0 0]) := ha 1 (by simp)
      clear ha
      have hge : decide ((if b then (0 : Int) else -1) ≥ 0) = b := by cases b <;> rfl
      simp (maxSteps := 1000000) (disch := omega) only [push_cast, ↓wc_seq, ↓wc_block, ↓wc_scope, ↓wc_condL, ↓wc_region, ↓wr_cons, ↓wr_consgL, ↓wr_nil, ↓wo_pickL, ↓wo_callf, ↓wc_exit, ↓wc_ret, ↓wc_skip, ↓wc_wl, wo_some, wo_none, wo_ite, opQ_eq, seqQ_normal, seqQ_exit, seqQ_ret, blockQ_normal, blockQ_exit, blockQ_ret, iterQ_normal, iterQ_exit, iterQ_ret, retQ_normal, retQ_ret, retQ_exit, pickC_true, pickC_false, pickO_true, pickO_false, gstep_tt, gstep_ff, gstep_tf, gstep_ft, gstep_skip, int_bne, int_beq, decide_not, Nat.reduceAdd, Nat.reduceMul, Nat.reduceSub, Nat.reducePow, Nat.reduceLT, Nat.reduceLeDiff, Nat.reduceEqDiff, Int.reduceToNat, Int.reduceAdd, Int.reduceSub, Int.reduceNeg, Int.reduceMul, Int.reduceLT, Int.reduceLE, Int.reduceEq, le_max, ↓wo_build, ↓wo_buildSlice, evParts, ↓reduceIte, planIds, hasExt, cntFs, idxFs, clnFs, ovlFs, List.contains_cons, List.contains_nil, List.any_cons, List.any_nil, Nat.reduceBEq, setC, List.length_set, decide_eq_true_eq, decide_eq_false_iff_not, true_implies, false_implies, forall_const, reduceCtorEq, eq_self, Int.natCast_nonneg, Int.toNat_natCast, Int.ofNat_lt, D.int.injEq, Option.some.injEq, Nat.zero_add, Nat.add_zero, bne_iff_ne, bne_eq_false_iff_eq, beq_iff_eq, beq_eq_false_iff_ne, gt_iff_lt, ne_eq, not_true_eq_false, not_false_eq_true, hal, h0, h1, c2, hge, Tryd.f45]
    obtain ⟨d3, T3, c3, rfl, rfl⟩ := c3
    have c3 := (callD_own (call := dcall E (m + 2)) rfl (by simp [pureL_cons, D.pure])).trans c3
    refine wo_dcall Tryd.func20 rfl (by decide) rfl 10 rfl (fun a hal ha => ?_)
    have h0 : a[0]? = some (.agg x.enc) := ha 0 (by simp)
    have h1 : a[1]? = some (.loc p 0 0) := ha 1 (by simp)
    clear ha
    simp only [Wt.enc, hw, List.map_cons, List.map_nil] at h0 c3 g0
    simp (maxSteps := 1000000) (disch := omega) only [push_cast, ↓wc_seq, ↓wc_block, ↓wc_scope, ↓wc_condL, ↓wc_region, ↓wr_cons, ↓wr_consgL, ↓wr_nil, ↓wo_pickL, ↓wo_callf, ↓wc_exit, ↓wc_ret, ↓wc_skip, ↓wc_wl, wo_some, wo_none, wo_ite, opQ_eq, seqQ_normal, seqQ_exit, seqQ_ret, blockQ_normal, blockQ_exit, blockQ_ret, iterQ_normal, iterQ_exit, iterQ_ret, retQ_normal, retQ_ret, retQ_exit, pickC_true, pickC_false, pickO_true, pickO_false, gstep_tt, gstep_ff, gstep_tf, gstep_ft, gstep_skip, int_bne, int_beq, decide_not, Nat.reduceAdd, Nat.reduceMul, Nat.reduceSub, Nat.reducePow, Nat.reduceLT, Nat.reduceLeDiff, Nat.reduceEqDiff, Int.reduceToNat, Int.reduceAdd, Int.reduceSub, Int.reduceNeg, Int.reduceMul, Int.reduceLT, Int.reduceLE, Int.reduceEq, le_max, ↓wo_build, ↓wo_buildSlice, evParts, ↓reduceIte, planIds, hasExt, cntFs, idxFs, clnFs, ovlFs, List.contains_cons, List.contains_nil, List.any_cons, List.any_nil, Nat.reduceBEq, setC, List.length_set, decide_eq_true_eq, decide_eq_false_iff_not, true_implies, false_implies, forall_const, reduceCtorEq, eq_self, Int.natCast_nonneg, Int.toNat_natCast, Int.ofNat_lt, D.int.injEq, Option.some.injEq, Nat.zero_add, Nat.add_zero, bne_iff_ne, bne_eq_false_iff_eq, beq_iff_eq, beq_eq_false_iff_ne, gt_iff_lt, ne_eq, not_true_eq_false, not_false_eq_true, hal, h0, h1, List.append_assoc, List.nil_append, List.cons_append, List.length_append, List.length_nil, List.length_cons, g0, c3, dUn, Tryd.f20]
    exact ⟨_, rfl⟩
  obtain ⟨d, T, ho, J, rfl, rfl⟩ := this
  exact callD_obsJ rfl (by simp [pureL_cons, D.pure]) ho rfl
end
end Go.Proofs.YtajhgnefcddenaaDoor.Dm
namespace Go.Proofs.YtajhgnefcddenaaDoor.Dm
open Go Gw
set_option linter.unusedSimpArgs false
set_option linter.unusedSimpArgs false

section
variable {n : Nat} {S : List Ob} {st : Bool} {lab : Lab} {o p : Nat} {s : Stk}
/-- The request is not served. -/
theorem ClearNo {k : Nat} {x : Wt} {w : Lid} (hn : 310 ≤ n) (hw : x.legs = [w]) (hwo : w.Ok) (hs : SAt S lab o p s) (ok : StkOk 9999 s) (hlt : s.left w x.cl < x.cnt) (h : OneAt S k x) :
    ∃ J, ∀ st, callD E (dcall E n) st S 11 [.loc k 0 0, .loc p 0 0] = some (.nils, S ++ J) := by
  obtain ⟨m, rfl⟩ : ∃ m, n = m + 1 := ⟨n - 1, by omega⟩
  have : WO (dcall E (m + 1) 11 [.loc k 0 0, .loc p 0 0] S) fun d T => ∃ J, d = .nils ∧ T = S ++ J := by
    have c1 := Order1 (n := m) (st := false) (by omega) h
    have cs := fun st J => served_s (n := m) (st := st) (by omega) hw hwo (hs.push J) ok (decide_eq_true hlt)
    simp only [Wt.enc, Bool.not_true] at c1 cs
    refine wo_dcall Tryd.func11 rfl (by decide) rfl 39 rfl (fun a hal ha => ?_)
    have h0 : a[0]? = some (.loc k 0 0) := ha 0 (by simp)
    have h1 : a[1]? = some (.loc p 0 0) := ha 1 (by simp)
    clear ha
    simp (maxSteps := 1000000) (disch := omega) only [push_cast, ↓wc_seq, ↓wc_block, ↓wc_scope, ↓wc_condL, ↓wc_region, ↓wr_cons, ↓wr_consgL, ↓wr_nil, ↓wo_pickL, ↓wo_callf, ↓wc_exit, ↓wc_ret, ↓wc_skip, ↓wc_wl, wo_some, wo_none, wo_ite, opQ_eq, seqQ_normal, seqQ_exit, seqQ_ret, blockQ_normal, blockQ_exit, blockQ_ret, iterQ_normal, iterQ_exit, iterQ_ret, retQ_normal, retQ_ret, retQ_exit, pickC_true, pickC_false, pickO_true, pickO_false, gstep_tt, gstep_ff, gstep_tf, gstep_ft, gstep_skip, int_bne, int_beq, decide_not, Nat.reduceAdd, Nat.reduceMul, Nat.reduceSub, Nat.reducePow, Nat.reduceLT, Nat.reduceLeDiff, Nat.reduceEqDiff, Int.reduceToNat, Int.reduceAdd, Int.reduceSub, Int.reduceNeg, Int.reduceMul, Int.reduceLT, Int.reduceLE, Int.reduceEq, le_max, ↓wo_build, ↓wo_buildSlice, evParts, ↓reduceIte, planIds, hasExt, cntFs, idxFs, clnFs, ovlFs, List.contains_cons, List.contains_nil, List.any_cons, List.any_nil, Nat.reduceBEq, setC, List.length_set, decide_eq_true_eq, decide_eq_false_iff_not, true_implies, false_implies, forall_const, reduceCtorEq, eq_self, Int.natCast_nonneg, Int.toNat_natCast, Int.ofNat_lt, D.int.injEq, Option.some.injEq, Nat.zero_add, Nat.add_zero, bne_iff_ne, bne_eq_false_iff_eq, beq_iff_eq, beq_eq_false_iff_ne, gt_iff_lt, ne_eq, not_true_eq_false, not_false_eq_true, hal, h0, h1, c1]
    refine wl_loop (fun i a T => (∃ J, T = S ++ (Ob.row 5 [x.enc] :: J)) ∧ a.length = 39 ∧ a[1]? = some (.loc p 0 0) ∧ a[5]? = some (.nils) ∧ a[9]? = some (.os S.length 0 1 false) ∧ a[10]? = some (.int .i64 1) ∧ a[11]? = some (.int .i64 i)) 1 ?_ (by omega) ?_
    · simp (maxSteps := 1000000) (disch := omega) only [push_cast, ↓wc_seq, ↓wc_block, ↓wc_scope, ↓wc_condL, ↓wc_region, ↓wr_cons, ↓wr_consgL, ↓wr_nil, ↓wo_pickL, ↓wo_callf, ↓wc_exit, ↓wc_ret, ↓wc_skip, ↓wc_wl, wo_some, wo_none, wo_ite, opQ_eq, seqQ_normal, seqQ_exit, seqQ_ret, blockQ_normal, blockQ_exit, blockQ_ret, iterQ_normal, iterQ_exit, iterQ_ret, retQ_normal, retQ_ret, retQ_exit, pickC_true, pickC_false, pickO_true, pickO_false, gstep_tt, gstep_ff, gstep_tf, gstep_ft, gstep_skip, int_bne, int_beq, decide_not, Nat.reduceAdd, Nat.reduceMul, Nat.reduceSub, Nat.reducePow, Nat.reduceLT, Nat.reduceLeDiff, Nat.reduceEqDiff, Int.reduceToNat, Int.reduceAdd, Int.reduceSub, Int.reduceNeg, Int.reduceMul, Int.reduceLT, Int.reduceLE, Int.reduceEq, le_max, ↓wo_build, ↓wo_buildSlice, evParts, ↓reduceIte, planIds, hasExt, cntFs, idxFs, clnFs, ovlFs, List.contains_cons, List.contains_nil, List.any_cons, List.any_nil, Nat.reduceBEq, setC, List.length_set, decide_eq_true_eq, decide_eq_false_iff_not, true_implies, false_implies, forall_const, reduceCtorEq, eq_self, Int.natCast_nonneg, Int.toNat_natCast, Int.ofNat_lt, D.int.injEq, Option.some.injEq, Nat.zero_add, Nat.add_zero, bne_iff_ne, bne_eq_false_iff_eq, beq_iff_eq, beq_eq_false_iff_ne, gt_iff_lt, ne_eq, not_true_eq_false, not_false_eq_true, hal, h0, h1, Wt.enc, Int.natCast_zero]
      exact ⟨[], rfl⟩
    clear hal h0 h1 a
    rintro i a T hi ⟨⟨J, hJ⟩, hal, h1, h5, h9, h10, h11⟩
    have g2 : T[S.length]? = some (.row 5 [x.enc]) := by rw [hJ]; simp
    rcases Nat.lt_or_eq_of_le hi with hlt | rfl
    case inr =>
      simp (maxSteps := 1000000) (disch := omega) only [push_cast, ↓wc_seq, ↓wc_block, ↓wc_scope, ↓wc_condL, ↓wc_region, ↓wr_cons, ↓wr_consgL, ↓wr_nil, ↓wo_pickL, ↓wo_callf, ↓wc_exit, ↓wc_ret, ↓wc_skip, ↓wc_wl, wo_some, wo_none, wo_ite, opQ_eq, seqQ_normal, seqQ_exit, seqQ_ret, blockQ_normal, blockQ_exit, blockQ_ret, iterQ_normal, iterQ_exit, iterQ_ret, retQ_normal, retQ_ret, retQ_exit, pickC_true, pickC_false, pickO_true, pickO_false, gstep_tt, gstep_ff, gstep_tf, gstep_ft, gstep_skip, int_bne, int_beq, decide_not, Nat.reduceAdd, Nat.reduceMul, Nat.reduceSub, Nat.reducePow, Nat.reduceLT, Nat.reduceLeDiff, Nat.reduceEqDiff, Int.reduceToNat, Int.reduceAdd, Int.reduceSub, Int.reduceNeg, Int.reduceMul, Int.reduceLT, Int.reduceLE, Int.reduceEq, le_max, ↓wo_build, ↓wo_buildSlice, evParts, ↓reduceIte, planIds, hasExt, cntFs, idxFs, clnFs, ovlFs, List.contains_cons, List.contains_nil, List.any_cons, List.any_nil, Nat.reduceBEq, setC, List.length_set, decide_eq_true_eq, decide_eq_false_iff_not, true_implies, false_implies, forall_const, reduceCtorEq, eq_self, Int.natCast_nonneg, Int.toNat_natCast, Int.ofNat_lt, D.int.injEq, Option.some.injEq, Nat.zero_add, Nat.add_zero, bne_iff_ne, bne_eq_false_iff_eq, beq_iff_eq, beq_eq_false_iff_ne, gt_iff_lt, ne_eq, not_true_eq_false, not_false_eq_true, hal, h1, h5, h9, h10, h11, Int.natCast_one, Int.lt_irrefl, Tryd.f11]
      exact ⟨_, hJ⟩
    obtain rfl : i = 0 := by omega
    have cs := fun st => cs st (Ob.row 5 [x.enc] :: (J ++ [Ob.row 5 [x.enc]]))
    rw [show S ++ (Ob.row 5 [x.enc] :: (J ++ [Ob.row 5 [x.enc]])) = T ++ [Ob.row 5 [x.enc]] by rw [hJ]; simp] at cs
    simp only [Wt.enc] at g2 cs
    simp (maxSteps := 1000000) (disch := omega) only [push_cast, ↓wc_seq, ↓wc_block, ↓wc_scope, ↓wc_condL, ↓wc_region, ↓wr_cons, ↓wr_consgL, ↓wr_nil, ↓wo_pickL, ↓wo_callf, ↓wc_exit, ↓wc_ret, ↓wc_skip, ↓wc_wl, wo_some, wo_none, wo_ite, opQ_eq, seqQ_normal, seqQ_exit, seqQ_ret, blockQ_normal, blockQ_exit, blockQ_ret, iterQ_normal, iterQ_exit, iterQ_ret, retQ_normal, retQ_ret, retQ_exit, pickC_true, pickC_false, pickO_true, pickO_false, gstep_tt, gstep_ff, gstep_tf, gstep_ft, gstep_skip, int_bne, int_beq, decide_not, Nat.reduceAdd, Nat.reduceMul, Nat.reduceSub, Nat.reducePow, Nat.reduceLT, Nat.reduceLeDiff, Nat.reduceEqDiff, Int.reduceToNat, Int.reduceAdd, Int.reduceSub, Int.reduceNeg, Int.reduceMul, Int.reduceLT, Int.reduceLE, Int.reduceEq, le_max, ↓wo_build, ↓wo_buildSlice, evParts, ↓reduceIte, planIds, hasExt, cntFs, idxFs, clnFs, ovlFs, List.contains_cons, List.contains_nil, List.any_cons, List.any_nil, Nat.reduceBEq, setC, List.length_set, decide_eq_true_eq, decide_eq_false_iff_not, true_implies, false_implies, forall_const, reduceCtorEq, eq_self, Int.natCast_nonneg, Int.toNat_natCast, Int.ofNat_lt, D.int.injEq, Option.some.injEq, Nat.zero_add, Nat.add_zero, bne_iff_ne, bne_eq_false_iff_eq, beq_iff_eq, beq_eq_false_iff_ne, gt_iff_lt, ne_eq, not_true_eq_false, not_false_eq_true, hal, h1, h5, h9, h10, h11, Int.natCast_zero, cs, g2, get_end, set_end, Wt.enc, wrap_ok, Int.natCast_one]
    exact ⟨J ++ [.row 5 [x.enc]], by rw [hJ]; simp [Wt.enc]⟩
  obtain ⟨d, T, ho, J, rfl, rfl⟩ := this
  exact ⟨J, fun st => (callD_genw rfl).trans ho⟩
/-- A list with one request, whose places are nobody's. -/
def OneL (S : List Ob) (lab : Lab) (k : Nat) (x : Wt) : Prop := ∃ q, LiAt S k (.os q 0 1 false) ∧ S[q]? = some (.row 5 [x.enc]) ∧ lab k = [] ∧ lab q = []
theorem OneL.one {k : Nat} {x : Wt} (h : OneL S lab k x) : OneAt S k x := by
  obtain ⟨q, h1, h2, -, -⟩ := h
  exact ⟨q, h1, h2⟩
theorem OneL.push {k : Nat} {x : Wt} (h : OneL S lab k x) (J : List Ob) : OneL (S ++ J) lab k x := by
  obtain ⟨q, h1, h2, h3, h4⟩ := h
  exact ⟨q, h1.app J, get_psh h2 J, h3, h4⟩
theorem OneL.step {k : Nat} {x : Wt} {T : List Ob} {lab' : Lab} (h : OneL S lab k x) (g : Step o S lab T lab') : OneL T lab' k x := by
  obtain ⟨q, h1, h2, h3, h4⟩ := h
  unfold LiAt at h1
  obtain ⟨u1, u2⟩ := g.free h1 h3
  obtain ⟨u3, u4⟩ := g.free h2 h4
  exact ⟨q, u1, u3, u2, u4⟩
theorem GoneAt.app {k : Nat} (h : GoneAt S k) (J : List Ob) : GoneAt (S ++ J) k := by
  obtain ⟨r, es, h1, h2⟩ := h
  exact ⟨r, es, h1.app J, get_psh h2 J⟩
/-- The request is served. -/
theorem ClearYes {k : Nat} {x : Wt} {w : Lid} {s' : Stk} (hn : 310 ≤ n) (hw : x.legs = [w]) (hwo : w.Ok) (hs : SAt S lab 1 p s) (ok : StkOk 9999 s) (hge : ¬ s.left w x.cl < x.cnt) (hsell : s.sell [w] x.cl x.cnt = (0, s')) (h : OneL S lab k x) :
    ∃ q T lab', (∀ st, callD E (dcall E n) st S 11 [.loc k 0 0, .loc p 0 0] = some (.os q 0 1 false, T)) ∧ T[q]? = some (.row 5 [x.enc]) ∧ GoneAt T k ∧ SAt T lab' 1 p s' := by
  obtain ⟨m, rfl⟩ : ∃ m, n = m + 1 := ⟨n - 1, by omega⟩
  have : WO (dcall E (m + 1) 11 [.loc k 0 0, .loc p 0 0] S) fun d T => ∃ q lab', d = .os q 0 1 false ∧ T[q]? = some (.row 5 [x.enc]) ∧ GoneAt T k ∧ SAt T lab' 1 p s' := by
    have c1 := Order1 (n := m) (st := false) (by omega) h.one
    obtain ⟨S1, hS1⟩ : ∃ S1, S1 = S ++ [Ob.row 5 [x.enc]] := ⟨_, rfl⟩
    obtain ⟨S2, hS2⟩ : ∃ S2, S2 = S1 ++ [Ob.row 5 [x.enc]] := ⟨_, rfl⟩
    have hf := hs.1
    have u1 : S1[S.length]? = some (.row 5 [x.enc]) := by rw [hS1]; exact get_end
    have u2 : S2[S1.length]? = some (.row 5 [x.enc]) := by rw [hS2]; exact get_end
    have s2 : SAt S2 lab 1 p s := by rw [hS2, hS1]; exact (hs.push _).push _
    have o2 : OneL S2 lab k x := by rw [hS2, hS1]; exact (h.push _).push _
    have cs := fun st => served_s (n := m) (st := st) (by omega) hw hwo s2 ok (decide_eq_false hge)
    obtain ⟨T3, lab3, ce, s3, g3⟩ := Sell_c (n := m) (ids := [w]) (by omega) s2 ok (by simp) (fun id hid => by rw [List.mem_singleton] at hid; rw [hid]; exact hwo) (di := .sl 4 [w.enc] x.legsx) (.inr ⟨x.legsx, rfl⟩) x.cl x.cnt
    rw [hsell] at ce s3
    have o3 := o2.step g3
    have lb : lab S1.length = [] := hf _ (by rw [hS1, List.length_append]; omega)
    obtain ⟨u3, lb3⟩ := g3.free u2 lb
    obtain ⟨T4, cl, hg4, hb4⟩ := Leave1 (n := m) (by omega) o3.one
    have s4 := s3.but o3.choose_spec.2.2.1 hb4
    have hne : S1.length ≠ k := by
      have := lt_of_get h.choose_spec.1
      rw [hS1]; simp; omega
    have u4 : T4[S1.length]? = some (.row 5 [x.enc]) := by rw [hb4.2 _ (lt_of_get u3) hne]; exact u3
    have ap := Wl.appW (S := T4) (s := .nils) (x := .sl 5 [x.enc] true) (.inl rfl) rfl
    rw [← hS1] at c1
    simp only [Wt.enc, hw, List.map_cons, List.map_nil, Bool.not_false] at c1 cs u1 hS2 u3 u4 ap cl
    refine wo_dcall Tryd.func11 rfl (by decide) rfl 39 rfl (fun a hal ha => ?_)
    have h0 : a[0]? = some (.loc k 0 0) := ha 0 (by simp)
    have h1 : a[1]? = some (.loc p 0 0) := ha 1 (by simp)
    clear ha
    simp (maxSteps := 1000000) (disch := omega) only [push_cast, ↓wc_seq, ↓wc_block, ↓wc_scope, ↓wc_condL, ↓wc_region, ↓wr_cons, ↓wr_consgL, ↓wr_nil, ↓wo_pickL, ↓wo_callf, ↓wc_exit, ↓wc_ret, ↓wc_skip, ↓wc_wl, wo_some, wo_none, wo_ite, opQ_eq, seqQ_normal, seqQ_exit, seqQ_ret, blockQ_normal, blockQ_exit, blockQ_ret, iterQ_normal, iterQ_exit, iterQ_ret, retQ_normal, retQ_ret, retQ_exit, pickC_true, pickC_false, pickO_true, pickO_false, gstep_tt, gstep_ff, gstep_tf, gstep_ft, gstep_skip, int_bne, int_beq, decide_not, Nat.reduceAdd, Nat.reduceMul, Nat.reduceSub, Nat.reducePow, Nat.reduceLT, Nat.reduceLeDiff, Nat.reduceEqDiff, Int.reduceToNat, Int.reduceAdd, Int.reduceSub, Int.reduceNeg, Int.reduceMul, Int.reduceLT, Int.reduceLE, Int.reduceEq, le_max, ↓wo_build, ↓wo_buildSlice, evParts, ↓reduceIte, planIds, hasExt, cntFs, idxFs, clnFs, ovlFs, List.contains_cons, List.contains_nil, List.any_cons, List.any_nil, Nat.reduceBEq, setC, List.length_set, decide_eq_true_eq, decide_eq_false_iff_not, true_implies, false_implies, forall_const, reduceCtorEq, eq_self, Int.natCast_nonneg, Int.toNat_natCast, Int.ofNat_lt, D.int.injEq, Option.some.injEq, Nat.zero_add, Nat.add_zero, bne_iff_ne, bne_eq_false_iff_eq, beq_iff_eq, beq_eq_false_iff_ne, gt_iff_lt, ne_eq, not_true_eq_false, not_false_eq_true, hal, h0, h1, c1]
    refine wl_loop (fun i a T => ((i = 0 ∧ T = S1 ∧ a[5]? = some .nils) ∨ (i = 1 ∧ ∃ q lab', a[5]? = some (.os q 0 1 false) ∧ T[q]? = some (.row 5 [x.enc]) ∧ GoneAt T k ∧ SAt T lab' 1 p s')) ∧ a.length = 39 ∧ a[0]? = some (.loc k 0 0) ∧ a[1]? = some (.loc p 0 0) ∧ a[9]? = some (.os S.length 0 1 false) ∧ a[10]? = some (.int .i64 1) ∧ a[11]? = some (.int .i64 i)) 1 ?_ (by omega) ?_
    · simp (maxSteps := 1000000) (disch := omega) only [push_cast, ↓wc_seq, ↓wc_block, ↓wc_scope, ↓wc_condL, ↓wc_region, ↓wr_cons, ↓wr_consgL, ↓wr_nil, ↓wo_pickL, ↓wo_callf, ↓wc_exit, ↓wc_ret, ↓wc_skip, ↓wc_wl, wo_some, wo_none, wo_ite, opQ_eq, seqQ_normal, seqQ_exit, seqQ_ret, blockQ_normal, blockQ_exit, blockQ_ret, iterQ_normal, iterQ_exit, iterQ_ret, retQ_normal, retQ_ret, retQ_exit, pickC_true, pickC_false, pickO_true, pickO_false, gstep_tt, gstep_ff, gstep_tf, gstep_ft, gstep_skip, int_bne, int_beq, decide_not, Nat.reduceAdd, Nat.reduceMul, Nat.reduceSub, Nat.reducePow, Nat.reduceLT, Nat.reduceLeDiff, Nat.reduceEqDiff, Int.reduceToNat, Int.reduceAdd, Int.reduceSub, Int.reduceNeg, Int.reduceMul, Int.reduceLT, Int.reduceLE, Int.reduceEq, le_max, ↓wo_build, ↓wo_buildSlice, evParts, ↓reduceIte, planIds, hasExt, cntFs, idxFs, clnFs, ovlFs, List.contains_cons, List.contains_nil, List.any_cons, List.any_nil, Nat.reduceBEq, setC, List.length_set, decide_eq_true_eq, decide_eq_false_iff_not, true_implies, false_implies, forall_const, reduceCtorEq, eq_self, Int.natCast_nonneg, Int.toNat_natCast, Int.ofNat_lt, D.int.injEq, Option.some.injEq, Nat.zero_add, Nat.add_zero, bne_iff_ne, bne_eq_false_iff_eq, beq_iff_eq, beq_eq_false_iff_ne, gt_iff_lt, ne_eq, not_true_eq_false, not_false_eq_true, hal, h0, h1, Int.natCast_zero, true_or, true_and]
    clear hal h0 h1 a
    rintro i a T hi ⟨⟨rfl, rfl, h5⟩ | ⟨rfl, q, lab', h5, t1, t2, t3⟩, hal, h0, h1, h9, h10, h11⟩
    case inr =>
      simp (maxSteps := 1000000) (disch := omega) only [push_cast, ↓wc_seq, ↓wc_block, ↓wc_scope, ↓wc_condL, ↓wc_region, ↓wr_cons, ↓wr_consgL, ↓wr_nil, ↓wo_pickL, ↓wo_callf, ↓wc_exit, ↓wc_ret, ↓wc_skip, ↓wc_wl, wo_some, wo_none, wo_ite, opQ_eq, seqQ_normal, seqQ_exit, seqQ_ret, blockQ_normal, blockQ_exit, blockQ_ret, iterQ_normal, iterQ_exit, iterQ_ret, retQ_normal, retQ_ret, retQ_exit, pickC_true, pickC_false, pickO_true, pickO_false, gstep_tt, gstep_ff, gstep_tf, gstep_ft, gstep_skip, int_bne, int_beq, decide_not, Nat.reduceAdd, Nat.reduceMul, Nat.reduceSub, Nat.reducePow, Nat.reduceLT, Nat.reduceLeDiff, Nat.reduceEqDiff, Int.reduceToNat, Int.reduceAdd, Int.reduceSub, Int.reduceNeg, Int.reduceMul, Int.reduceLT, Int.reduceLE, Int.reduceEq, le_max, ↓wo_build, ↓wo_buildSlice, evParts, ↓reduceIte, planIds, hasExt, cntFs, idxFs, clnFs, ovlFs, List.contains_cons, List.contains_nil, List.any_cons, List.any_nil, Nat.reduceBEq, setC, List.length_set, decide_eq_true_eq, decide_eq_false_iff_not, true_implies, false_implies, forall_const, reduceCtorEq, eq_self, Int.natCast_nonneg, Int.toNat_natCast, Int.ofNat_lt, D.int.injEq, Option.some.injEq, Nat.zero_add, Nat.add_zero, bne_iff_ne, bne_eq_false_iff_eq, beq_iff_eq, beq_eq_false_iff_ne, gt_iff_lt, ne_eq, not_true_eq_false, not_false_eq_true, hal, h0, h1, h5, h9, h10, h11, Int.natCast_one, Int.lt_irrefl, Tryd.f11]
      exact ⟨_, lab', rfl, t1, t2, t3⟩
    simp (maxSteps := 1000000) (disch := omega) only [push_cast, ↓wc_seq, ↓wc_block, ↓wc_scope, ↓wc_condL, ↓wc_region, ↓wr_cons, ↓wr_consgL, ↓wr_nil, ↓wo_pickL, ↓wo_callf, ↓wc_exit, ↓wc_ret, ↓wc_skip, ↓wc_wl, wo_some, wo_none, wo_ite, opQ_eq, seqQ_normal, seqQ_exit, seqQ_ret, blockQ_normal, blockQ_exit, blockQ_ret, iterQ_normal, iterQ_exit, iterQ_ret, retQ_normal, retQ_ret, retQ_exit, pickC_true, pickC_false, pickO_true, pickO_false, gstep_tt, gstep_ff, gstep_tf, gstep_ft, gstep_skip, int_bne, int_beq, decide_not, Nat.reduceAdd, Nat.reduceMul, Nat.reduceSub, Nat.reducePow, Nat.reduceLT, Nat.reduceLeDiff, Nat.reduceEqDiff, Int.reduceToNat, Int.reduceAdd, Int.reduceSub, Int.reduceNeg, Int.reduceMul, Int.reduceLT, Int.reduceLE, Int.reduceEq, le_max, ↓wo_build, ↓wo_buildSlice, evParts, ↓reduceIte, planIds, hasExt, cntFs, idxFs, clnFs, ovlFs, List.contains_cons, List.contains_nil, List.any_cons, List.any_nil, Nat.reduceBEq, setC, List.length_set, decide_eq_true_eq, decide_eq_false_iff_not, true_implies, false_implies, forall_const, reduceCtorEq, eq_self, Int.natCast_nonneg, Int.toNat_natCast, Int.ofNat_lt, D.int.injEq, Option.some.injEq, Nat.zero_add, Nat.add_zero, bne_iff_ne, bne_eq_false_iff_eq, beq_iff_eq, beq_eq_false_iff_ne, gt_iff_lt, ne_eq, not_true_eq_false, not_false_eq_true, hal, h0, h1, h5, h9, h10, h11, Int.natCast_zero, cs, ce, cl, u1, ← hS2, u2, u3, u4, ap, get_end, set_end, Wt.enc, hw, wrap_ok, Int.natCast_one]
    exact .inr ⟨_, lab3, rfl, get_end, hg4.app _, s4.push _⟩
  obtain ⟨d, T, ho, q, lab', rfl, h1, h2, h3⟩ := this
  exact ⟨q, T, lab', fun st => (callD_genw rfl).trans ho, h1, h2, h3⟩
end
end Go.Proofs.YtajhgnefcddenaaDoor.Dm
