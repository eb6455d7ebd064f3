/-
  The machine at connecting times: how exactly an element matches, and the minimum.
-/
import Derived.Test.YtgomkmamgflbeaaDoorTxC
import Derived.Test.YtgomkmamgflbeaaDoorGw
namespace Go.Proofs.YtgomkmamgflbeaaDoor.Dm
open Go Gw
set_option linter.unusedSimpArgs false

structure Cnn where
  a : ByteArray
  i : ByteArray
  o : ByteArray
  m : Int
def Cnn.enc (c : Cnn) : List D := [.str c.a, .str c.i, .str c.o, .int .i64 c.m]
def emp : ByteArray := ByteArray.mk #[]
def eqS (x y : ByteArray) : Bool := x.toList == y.toList
/-- The three fields: none: not given; some: given, does it match? -/
def fldS (x y : ByteArray) : Option Bool := if eqS x emp = true then none else some (eqS x y)
def wtS (p q r : Option Bool) : Int :=
  match p, q, r with
  | some false, _, _ => -1
  | _, some false, _ => -1
  | _, _, some false => -1
  | p, q, r => (if p.isSome then 12 else 0) + (if q.isSome then 10 else 0) + (if r.isSome then 9 else 0)
def rkS (p q r : Option Bool) : Int :=
  match p, q, r with
  | some false, _, _ => -1
  | _, some false, _ => -1
  | _, _, some false => -1
  | p, q, r => (if p.isSome then 110 else 0) + (if q.isSome then 101 else 0) + (if r.isSome then 100 else 0)
theorem sh0 : dShift .shr .i64 4 0 = some (.int .i64 4) := by kernel_rfl
theorem sh1 : dShift .shr .i64 4 1 = some (.int .i64 2) := by kernel_rfl
theorem sh2 : dShift .shr .i64 4 2 = some (.int .i64 1) := by kernel_rfl
set_option maxHeartbeats 4000000 in
set_option maxRecDepth 100000 in
theorem weight_c {n : Nat} (hn : 20 ≤ n) (c : Cnn) (p q r : ByteArray) (st : Bool) (S : List Ob) : callD E (dcall E n) st S 33 [.agg c.enc, .str p, .str q, .str r] = some (.int .i64 (wtS (fldS c.a p) (fldS c.i q) (fldS c.o r)), S) := by
  obtain ⟨m, rfl⟩ : ∃ m, n = m + 7 + 1 := ⟨n - 8, by omega⟩
  have : WO (dcall E (m + 7 + 1) 33 [.agg c.enc, .str p, .str q, .str r] []) fun d T => d = .int .i64 (wtS (fldS c.a p) (fldS c.i q) (fldS c.o r)) ∧ True := by
    refine wo_dcall Tryd.func33 rfl (by decide) rfl 46 rfl (fun a hal ha => ?_)
    have h0 : a[0]? = some (.agg c.enc) := ha 0 (by simp)
    have h1 : a[1]? = some (.str p) := ha 1 (by simp)
    have h2 : a[2]? = some (.str q) := ha 2 (by simp)
    have h3 : a[3]? = some (.str r) := ha 3 (by simp)
    clear ha
    obtain ⟨ca, ci, co, cm⟩ := c
    simp only [Cnn.enc] at h0
    unfold fldS eqS emp
    generalize ea : (ca.toList == (ByteArray.mk #[]).toList) = a1
    generalize ei : (ci.toList == (ByteArray.mk #[]).toList) = i1
    generalize eo : (co.toList == (ByteArray.mk #[]).toList) = o1
    generalize fa : (ca.toList == p.toList) = a2
    generalize fi : (ci.toList == q.toList) = i2
    generalize fo : (co.toList == r.toList) = o2
    cases a1 <;> cases a2 <;> cases i1 <;> cases i2 <;> cases o1 <;> cases o2 <;>
    · simp (maxSteps := 1000000) (disch := omega) only [push_cast, ↓wc_seq, ↓wc_block, ↓wc_scope, ↓wc_condL, ↓wc_region, ↓wr_cons, ↓wr_consgL, ↓wr_nil, ↓wo_pickL, ↓wo_callf, ↓wc_exit, ↓wc_ret, ↓wc_skip, ↓wc_wl, wo_some, wo_none, wo_ite, opQ_eq, seqQ_normal, seqQ_exit, seqQ_ret, blockQ_normal, blockQ_exit, blockQ_ret, iterQ_normal, iterQ_exit, iterQ_ret, retQ_normal, retQ_ret, retQ_exit, pickC_true, pickC_false, pickO_true, pickO_false, gstep_tt, gstep_ff, gstep_tf, gstep_ft, gstep_skip, int_bne, int_beq, decide_not, Nat.reduceAdd, Nat.reduceMul, Nat.reduceSub, Nat.reducePow, Nat.reduceLT, Nat.reduceLeDiff, Nat.reduceEqDiff, Int.reduceToNat, Int.reduceAdd, Int.reduceSub, Int.reduceNeg, Int.reduceMul, Int.reduceLT, Int.reduceLE, Int.reduceEq, le_max, ↓wo_build, ↓wo_buildSlice, evParts, ↓reduceIte, planIds, hasExt, cntFs, idxFs, clnFs, ovlFs, List.contains_cons, List.contains_nil, List.any_cons, List.any_nil, Nat.reduceBEq, setC, List.length_set, decide_eq_true_eq, decide_eq_false_iff_not, true_implies, false_implies, forall_const, reduceCtorEq, eq_self, Int.natCast_nonneg, Int.toNat_natCast, Int.ofNat_lt, D.int.injEq, Option.some.injEq, Nat.zero_add, Nat.add_zero, bne_iff_ne, bne_eq_false_iff_eq, beq_iff_eq, beq_eq_false_iff_ne, gt_iff_lt, ne_eq, not_true_eq_false, not_false_eq_true, planIds, hasExt, cntFs, idxFs, clnFs, ovlFs, List.contains_cons, List.contains_nil, List.any_cons, List.any_nil, Nat.reduceBEq, Nat.reduceMul, Nat.reduceAdd, ↓reduceIte, hal, h0, h1, h2, h3, ea, ei, eo, fa, fi, fo, set_end, get_end, wl_wln, ↓wln_succ, loopQ_normal, loopQ_exit, loopQ_ret, wrap_ok, sh0, sh1, sh2, wtS, Tryd.f33]
  obtain ⟨d, T, ho, rfl, -⟩ := this
  exact callD_pure rfl (by simp [pureL, D.pure, Cnn.enc]) ho rfl
set_option maxHeartbeats 4000000 in
set_option maxRecDepth 100000 in
theorem rank_c {n : Nat} (hn : 2 ≤ n) (c : Cnn) (p q r : ByteArray) (st : Bool) (S : List Ob) : callD E (dcall E n) st S 34 [.agg c.enc, .str p, .str q, .str r] = some (.int .i64 (rkS (fldS c.a p) (fldS c.i q) (fldS c.o r)), S) := by
  obtain ⟨m, rfl⟩ : ∃ m, n = m + 1 := ⟨n - 1, by omega⟩
  have : WO (dcall E (m + 1) 34 [.agg c.enc, .str p, .str q, .str r] []) fun d T => d = .int .i64 (rkS (fldS c.a p) (fldS c.i q) (fldS c.o r)) ∧ True := by
    refine wo_dcall Tryd.func34 rfl (by decide) rfl 40 rfl (fun a hal ha => ?_)
    have h0 : a[0]? = some (.agg c.enc) := ha 0 (by simp)
    have h1 : a[1]? = some (.str p) := ha 1 (by simp)
    have h2 : a[2]? = some (.str q) := ha 2 (by simp)
    have h3 : a[3]? = some (.str r) := ha 3 (by simp)
    clear ha
    obtain ⟨ca, ci, co, cm⟩ := c
    simp only [Cnn.enc] at h0
    unfold fldS eqS emp
    generalize ea : (ca.toList == (ByteArray.mk #[]).toList) = a1
    generalize ei : (ci.toList == (ByteArray.mk #[]).toList) = i1
    generalize eo : (co.toList == (ByteArray.mk #[]).toList) = o1
    generalize fa : (ca.toList == p.toList) = a2
    generalize fi : (ci.toList == q.toList) = i2
    generalize fo : (co.toList == r.toList) = o2
    cases a1 <;> cases a2 <;> cases i1 <;> cases i2 <;> cases o1 <;> cases o2 <;>
    · simp (maxSteps := 1000000) (disch := omega) only [push_cast, ↓wc_seq, ↓wc_block, ↓wc_scope, ↓wc_condL, ↓wc_region, ↓wr_cons, ↓wr_consgL, ↓wr_nil, ↓wo_pickL, ↓wo_callf, ↓wc_exit, ↓wc_ret, ↓wc_skip, ↓wc_wl, wo_some, wo_none, wo_ite, opQ_eq, seqQ_normal, seqQ_exit, seqQ_ret, blockQ_normal, blockQ_exit, blockQ_ret, iterQ_normal, iterQ_exit, iterQ_ret, retQ_normal, retQ_ret, retQ_exit, pickC_true, pickC_false, pickO_true, pickO_false, gstep_tt, gstep_ff, gstep_tf, gstep_ft, gstep_skip, int_bne, int_beq, decide_not, Nat.reduceAdd, Nat.reduceMul, Nat.reduceSub, Nat.reducePow, Nat.reduceLT, Nat.reduceLeDiff, Nat.reduceEqDiff, Int.reduceToNat, Int.reduceAdd, Int.reduceSub, Int.reduceNeg, Int.reduceMul, Int.reduceLT, Int.reduceLE, Int.reduceEq, le_max, ↓wo_build, ↓wo_buildSlice, evParts, ↓reduceIte, planIds, hasExt, cntFs, idxFs, clnFs, ovlFs, List.contains_cons, List.contains_nil, List.any_cons, List.any_nil, Nat.reduceBEq, setC, List.length_set, decide_eq_true_eq, decide_eq_false_iff_not, true_implies, false_implies, forall_const, reduceCtorEq, eq_self, Int.natCast_nonneg, Int.toNat_natCast, Int.ofNat_lt, D.int.injEq, Option.some.injEq, Nat.zero_add, Nat.add_zero, bne_iff_ne, bne_eq_false_iff_eq, beq_iff_eq, beq_eq_false_iff_ne, gt_iff_lt, ne_eq, not_true_eq_false, not_false_eq_true, planIds, hasExt, cntFs, idxFs, clnFs, ovlFs, List.contains_cons, List.contains_nil, List.any_cons, List.any_nil, Nat.reduceBEq, Nat.reduceMul, Nat.reduceAdd, ↓reduceIte, hal, h0, h1, h2, h3, ea, ei, eo, fa, fi, fo, set_end, get_end, wrap_ok, rkS, Tryd.f34]
  obtain ⟨d, T, ho, rfl, -⟩ := this
  exact callD_pure rfl (by simp [pureL, D.pure, Cnn.enc]) ho rfl
def obs : List (Option Bool) := [none, some true, some false]
theorem obs_mem (p : Option Bool) : p ∈ obs := by
  rcases p with _ | _ | _ <;> simp [obs]
theorem wt_all : (obs.all fun p => obs.all fun q => obs.all fun r => obs.all fun p' => obs.all fun q' => obs.all fun r' => decide (wtS p q r < wtS p' q' r') == decide (rkS p q r < rkS p' q' r')) = true := by kernel_rfl
/-- The two measures have the same order. -/
theorem wt_rk (p q r p' q' r' : Option Bool) : decide (wtS p q r < wtS p' q' r') = decide (rkS p q r < rkS p' q' r') := by
  have h := wt_all
  simp only [List.all_eq_true] at h
  simpa using h p (obs_mem p) q (obs_mem q) r (obs_mem r) p' (obs_mem p') q' (obs_mem q') r' (obs_mem r')
end Go.Proofs.YtgomkmamgflbeaaDoor.Dm
