/-
  The machine at the methods of an inventory that is nil or a zero value.
-/
import Derived.Test.YtajhgnefcddenaaDoorSnA
import Derived.Test.YtajhgnefcddenaaDoorSkW
import Derived.Test.YtajhgnefcddenaaDoorSkF
namespace Go.Proofs.YtajhgnefcddenaaDoor.Dm
open Go Gw
set_option linter.unusedSimpArgs false
set_option linter.unusedSimpArgs false

theorem callD_obsPn {call : Call} {st : Bool} {S T : List Ob} {f : FuncId} {args : List D} {d d' : D} (hm : E.mode f = .obs) (hp : pureL args = true) (h : call f args [] = some (d, T)) (hd : freeze T 40 d = some d') : callD E call st S f args = some (d', S) := by
  unfold callD
  rw [hm]
  dsimp only
  rw [if_pos hp, h]
  dsimp only
  rw [hd]; rfl
/-- A nil inventory, or a zero value. -/
def NoneAt (S : List Ob) (p : D) : Prop := p = .nilp ∨ ∃ k, p = .loc k 0 0 ∧ S[k]? = some (.row 2 [[.nils, .nilm]])
theorem NoneAt.app {S : List Ob} {p : D} (h : NoneAt S p) (J : List Ob) : NoneAt (S ++ J) p := by
  rcases h with h | ⟨k, h, hk⟩
  · exact .inl h
  · exact .inr ⟨k, h, by rw [List.getElem?_append_left (lt_of_get hk)]; exact hk⟩
section
variable {n : Nat} {S : List Ob} {p r : D} {f : FuncId} {xs : List D} {st : Bool}
theorem obs0 (hm : E.mode f = .obs) (h : NoneAt S p) (hx : pureL xs = true) (hr : r.pure = true) (w : ∀ S', NoneAt S' p → WO (dcall E n f (p :: xs) S') fun d T => d = r ∧ ∃ J, T = S' ++ J) : callD E (dcall E n) st S f (p :: xs) = some (r, S) := by
  rcases h with rfl | ⟨k, rfl, hk⟩
  · obtain ⟨d, T, ho, rfl, J, rfl⟩ := w [] (.inl rfl)
    exact callD_obsPn hm (by simp [pureL_cons, hx, D.pure]) ho (freeze_pure hr)
  · obtain ⟨d, T, ho, rfl, J, rfl⟩ := w S (.inr ⟨k, rfl, hk⟩)
    exact callD_obsJ hm (by simp [pureL_cons, D.pure]) ho hr
theorem pure0 (hm : E.mode f = .pure) (h : NoneAt S p) (hx : pureL xs = true) (hr : r.pure = true) (w : ∀ S', NoneAt S' p → WO (dcall E n f (p :: xs) S') fun d T => d = r ∧ ∃ J, T = S' ++ J) : ∃ J, callD E (dcall E n) false S f (p :: xs) = some (r, S ++ J) := by
  rcases h with rfl | ⟨k, rfl, hk⟩
  · obtain ⟨d, T, ho, rfl, J, rfl⟩ := w [] (.inl rfl)
    exact ⟨[], by rw [List.append_nil]; exact callD_pure hm (by simp [pureL_cons, hx, D.pure]) ho (freeze_pure hr)⟩
  · obtain ⟨d, T, ho, rfl, J, rfl⟩ := w S (.inr ⟨k, rfl, hk⟩)
    exact ⟨J, (callD_own hm (by simp [pureL_cons, D.pure])).trans ho⟩
end
theorem eqp_stk0 : dEq Tryd.prog 10000 26 .nilp .nilp = some true := eqp_nil Tryd.underlying26
theorem eqm_nil {t a b : TypeId} {P : Program} (ht : P.underlying t = some (.map a b)) : dEq P 10000 t .nilm .nilm = some true := by
  rw [show (10000 : Nat) = 9999 + 1 from rfl]
  simp only [dEq, ht]
theorem eqm_legs0 : dEq Tryd.prog 10000 67 .nilm .nilm = some true := eqm_nil Tryd.underlying67
def e320 : ByteArray := ByteArray.mk #[51, 50, 48]
section
variable {n : Nat} {S : List Ob} {p : D}
theorem made0 (hn : 1 ≤ n) (h : NoneAt S p) (st : Bool) : callD E (dcall E n) st S 29 [p] = some (.bool false, S) := by
  obtain ⟨q, rfl⟩ : ∃ q, n = q + 1 := ⟨n - 1, by omega⟩
  refine obs0 rfl h rfl rfl fun S h => ?_
  rcases h with rfl | ⟨k, rfl, hk⟩
  · refine wo_dcall Tryd.func29 rfl (by decide) rfl 12 rfl (fun a hal ha => ?_)
    have h0 : a[0]? = some (.nilp) := ha 0 (by simp)
    clear ha
    simp (maxSteps := 1000000) (disch := omega) only [push_cast, ↓wc_seq, ↓wc_block, ↓wc_scope, ↓wc_condL, ↓wc_region, ↓wr_cons, ↓wr_consgL, ↓wr_nil, ↓wo_pickL, ↓wo_callf, ↓wc_exit, ↓wc_ret, ↓wc_skip, ↓wc_wl, wo_some, wo_none, wo_ite, opQ_eq, seqQ_normal, seqQ_exit, seqQ_ret, blockQ_normal, blockQ_exit, blockQ_ret, iterQ_normal, iterQ_exit, iterQ_ret, retQ_normal, retQ_ret, retQ_exit, pickC_true, pickC_false, pickO_true, pickO_false, gstep_tt, gstep_ff, gstep_tf, gstep_ft, gstep_skip, int_bne, int_beq, decide_not, Nat.reduceAdd, Nat.reduceMul, Nat.reduceSub, Nat.reducePow, Nat.reduceLT, Nat.reduceLeDiff, Nat.reduceEqDiff, Int.reduceToNat, Int.reduceAdd, Int.reduceSub, Int.reduceNeg, Int.reduceMul, Int.reduceLT, Int.reduceLE, Int.reduceEq, le_max, ↓wo_build, ↓wo_buildSlice, evParts, ↓reduceIte, planIds, hasExt, cntFs, idxFs, clnFs, ovlFs, List.contains_cons, List.contains_nil, List.any_cons, List.any_nil, Nat.reduceBEq, setC, List.length_set, decide_eq_true_eq, decide_eq_false_iff_not, true_implies, false_implies, forall_const, reduceCtorEq, eq_self, Int.natCast_nonneg, Int.toNat_natCast, Int.ofNat_lt, D.int.injEq, Option.some.injEq, Nat.zero_add, Nat.add_zero, bne_iff_ne, bne_eq_false_iff_eq, beq_iff_eq, beq_eq_false_iff_ne, gt_iff_lt, ne_eq, not_true_eq_false, not_false_eq_true, hal, h0, eqp_stk0, eqm_legs, Tryd.f29]
    exact ⟨[], by simp⟩
  · refine wo_dcall Tryd.func29 rfl (by decide) rfl 12 rfl (fun a hal ha => ?_)
    have h0 : a[0]? = some (.loc k 0 0) := ha 0 (by simp)
    clear ha
    simp (maxSteps := 1000000) (disch := omega) only [push_cast, ↓wc_seq, ↓wc_block, ↓wc_scope, ↓wc_condL, ↓wc_region, ↓wr_cons, ↓wr_consgL, ↓wr_nil, ↓wo_pickL, ↓wo_callf, ↓wc_exit, ↓wc_ret, ↓wc_skip, ↓wc_wl, wo_some, wo_none, wo_ite, opQ_eq, seqQ_normal, seqQ_exit, seqQ_ret, blockQ_normal, blockQ_exit, blockQ_ret, iterQ_normal, iterQ_exit, iterQ_ret, retQ_normal, retQ_ret, retQ_exit, pickC_true, pickC_false, pickO_true, pickO_false, gstep_tt, gstep_ff, gstep_tf, gstep_ft, gstep_skip, int_bne, int_beq, decide_not, Nat.reduceAdd, Nat.reduceMul, Nat.reduceSub, Nat.reducePow, Nat.reduceLT, Nat.reduceLeDiff, Nat.reduceEqDiff, Int.reduceToNat, Int.reduceAdd, Int.reduceSub, Int.reduceNeg, Int.reduceMul, Int.reduceLT, Int.reduceLE, Int.reduceEq, le_max, ↓wo_build, ↓wo_buildSlice, evParts, ↓reduceIte, planIds, hasExt, cntFs, idxFs, clnFs, ovlFs, List.contains_cons, List.contains_nil, List.any_cons, List.any_nil, Nat.reduceBEq, setC, List.length_set, decide_eq_true_eq, decide_eq_false_iff_not, true_implies, false_implies, forall_const, reduceCtorEq, eq_self, Int.natCast_nonneg, Int.toNat_natCast, Int.ofNat_lt, D.int.injEq, Option.some.injEq, Nat.zero_add, Nat.add_zero, bne_iff_ne, bne_eq_false_iff_eq, beq_iff_eq, beq_eq_false_iff_ne, gt_iff_lt, ne_eq, not_true_eq_false, not_false_eq_true, hal, h0, hk, eqp_stk, eqm_legs0, Tryd.f29]
    exact ⟨[], by simp⟩
theorem lidp (id : Lid) : pureL id.enc = true := by simp [pureL_cons, pureL_nil, D.pure, Lid.enc]
theorem get0 {id : Lid} (hn : 2 ≤ n) (h : NoneAt S p) : ∃ J, callD E (dcall E n) false S 37 [p, .agg id.enc] = some (.nilp, S ++ J) := by
  obtain ⟨q, rfl⟩ : ∃ q, n = q + 1 := ⟨n - 1, by omega⟩
  refine pure0 rfl h (by simp [pureL_cons, pureL_nil, D.pure, lidp]) rfl fun S h => ?_
  have c1 := made0 (n := q) (by omega) (h.app [.row 4 [id.enc]]) false
  refine wo_dcall Tryd.func37 rfl (by decide) rfl 14 rfl (fun a hal ha => ?_)
  have h0 : a[0]? = some (p) := ha 0 (by simp)
  have h1 : a[1]? = some (.agg id.enc) := ha 1 (by simp)
  clear ha
  simp only [Lid.enc] at h1 c1
  simp (maxSteps := 1000000) (disch := omega) only [push_cast, ↓wc_seq, ↓wc_block, ↓wc_scope, ↓wc_condL, ↓wc_region, ↓wr_cons, ↓wr_consgL, ↓wr_nil, ↓wo_pickL, ↓wo_callf, ↓wc_exit, ↓wc_ret, ↓wc_skip, ↓wc_wl, wo_some, wo_none, wo_ite, opQ_eq, seqQ_normal, seqQ_exit, seqQ_ret, blockQ_normal, blockQ_exit, blockQ_ret, iterQ_normal, iterQ_exit, iterQ_ret, retQ_normal, retQ_ret, retQ_exit, pickC_true, pickC_false, pickO_true, pickO_false, gstep_tt, gstep_ff, gstep_tf, gstep_ft, gstep_skip, int_bne, int_beq, decide_not, Nat.reduceAdd, Nat.reduceMul, Nat.reduceSub, Nat.reducePow, Nat.reduceLT, Nat.reduceLeDiff, Nat.reduceEqDiff, Int.reduceToNat, Int.reduceAdd, Int.reduceSub, Int.reduceNeg, Int.reduceMul, Int.reduceLT, Int.reduceLE, Int.reduceEq, le_max, ↓wo_build, ↓wo_buildSlice, evParts, ↓reduceIte, planIds, hasExt, cntFs, idxFs, clnFs, ovlFs, List.contains_cons, List.contains_nil, List.any_cons, List.any_nil, Nat.reduceBEq, setC, List.length_set, decide_eq_true_eq, decide_eq_false_iff_not, true_implies, false_implies, forall_const, reduceCtorEq, eq_self, Int.natCast_nonneg, Int.toNat_natCast, Int.ofNat_lt, D.int.injEq, Option.some.injEq, Nat.zero_add, Nat.add_zero, bne_iff_ne, bne_eq_false_iff_eq, beq_iff_eq, beq_eq_false_iff_ne, gt_iff_lt, ne_eq, not_true_eq_false, not_false_eq_true, hal, h0, h1, c1, Tryd.f37]
  exact ⟨_, rfl⟩
theorem Left0 {id : Lid} {cl : ByteArray} (hn : 3 ≤ n) (h : NoneAt S p) (st : Bool) : callD E (dcall E n) st S 16 [p, .agg id.enc, .str cl] = some (.int .i64 0, S) := by
  obtain ⟨q, rfl⟩ : ∃ q, n = q + 1 := ⟨n - 1, by omega⟩
  refine obs0 rfl h (by simp [pureL_cons, pureL_nil, D.pure, lidp]) rfl fun S h => ?_
  obtain ⟨J, c1⟩ := get0 (n := q) (id := id) (by omega) (h.app [.row 4 [id.enc]])
  refine wo_dcall Tryd.func16 rfl (by decide) rfl 22 rfl (fun a hal ha => ?_)
  have h0 : a[0]? = some (p) := ha 0 (by simp)
  have h1 : a[1]? = some (.agg id.enc) := ha 1 (by simp)
  have h2 : a[2]? = some (.str cl) := ha 2 (by simp)
  clear ha
  simp only [Lid.enc] at h1 c1
  simp (maxSteps := 1000000) (disch := omega) only [push_cast, ↓wc_seq, ↓wc_block, ↓wc_scope, ↓wc_condL, ↓wc_region, ↓wr_cons, ↓wr_consgL, ↓wr_nil, ↓wo_pickL, ↓wo_callf, ↓wc_exit, ↓wc_ret, ↓wc_skip, ↓wc_wl, wo_some, wo_none, wo_ite, opQ_eq, seqQ_normal, seqQ_exit, seqQ_ret, blockQ_normal, blockQ_exit, blockQ_ret, iterQ_normal, iterQ_exit, iterQ_ret, retQ_normal, retQ_ret, retQ_exit, pickC_true, pickC_false, pickO_true, pickO_false, gstep_tt, gstep_ff, gstep_tf, gstep_ft, gstep_skip, int_bne, int_beq, decide_not, Nat.reduceAdd, Nat.reduceMul, Nat.reduceSub, Nat.reducePow, Nat.reduceLT, Nat.reduceLeDiff, Nat.reduceEqDiff, Int.reduceToNat, Int.reduceAdd, Int.reduceSub, Int.reduceNeg, Int.reduceMul, Int.reduceLT, Int.reduceLE, Int.reduceEq, le_max, ↓wo_build, ↓wo_buildSlice, evParts, ↓reduceIte, planIds, hasExt, cntFs, idxFs, clnFs, ovlFs, List.contains_cons, List.contains_nil, List.any_cons, List.any_nil, Nat.reduceBEq, setC, List.length_set, decide_eq_true_eq, decide_eq_false_iff_not, true_implies, false_implies, forall_const, reduceCtorEq, eq_self, Int.natCast_nonneg, Int.toNat_natCast, Int.ofNat_lt, D.int.injEq, Option.some.injEq, Nat.zero_add, Nat.add_zero, bne_iff_ne, bne_eq_false_iff_eq, beq_iff_eq, beq_eq_false_iff_ne, gt_iff_lt, ne_eq, not_true_eq_false, not_false_eq_true, hal, h0, h1, h2, c1, get_end, eqp_leg0, Tryd.f16]
  exact ⟨_, List.append_assoc _ _ _⟩
end
end Go.Proofs.YtajhgnefcddenaaDoor.Dm
