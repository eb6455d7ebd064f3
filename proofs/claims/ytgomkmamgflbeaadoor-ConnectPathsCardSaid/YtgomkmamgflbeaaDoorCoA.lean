/-
  The machine at connecting times: how exactly an element matches, and the minimum.
  The machine at minimum connecting times: both programs find the same.
-/
import Derived.Test.YtgomkmamgflbeaaDoorTxE
import Derived.Test.YtgomkmamgflbeaaDoorGw
namespace Go.Proofs.YtgomkmamgflbeaaDoor.Dm
open Go Gw
set_option linter.unusedSimpArgs false

structure Cnn where
  a : ByteArray
  i : ByteArray
  o : ByteArray
  m : Int
def Cnn.enc (c : Cnn) : List D := [.str c.a, .str c.i, .str c.o, .int .i64 c.m]
def emp : ByteArray := ByteArray.mk #[]
def eqS (x y : ByteArray) : Bool := x.toList == y.toList
/-- The three fields: none: not given; some: given, does it match? -/
def fldS (x y : ByteArray) : Option Bool := if eqS x emp = true then none else some (eqS x y)
def wtS (p q r : Option Bool) : Int :=
  match p, q, r with
  | some false, _, _ => -1
  | _, some false, _ => -1
  | _, _, some false => -1
  | p, q, r => (if p.isSome then 12 else 0) + (if q.isSome then 10 else 0) + (if r.isSome then 9 else 0)
def rkS (p q r : Option Bool) : Int :=
  match p, q, r with
  | some false, _, _ => -1
  | _, some false, _ => -1
  | _, _, some false => -1
  | p, q, r => (if p.isSome then 110 else 0) + (if q.isSome then 101 else 0) + (if r.isSome then 100 else 0)
theorem sh0 : dShift .shr .i64 4 0 = some (.int .i64 4) := by kernel_rfl
theorem sh1 : dShift .shr .i64 4 1 = some (.int .i64 2) := by kernel_rfl
theorem sh2 : dShift .shr .i64 4 2 = some (.int .i64 1) := by kernel_rfl
set_option maxHeartbeats 4000000 in
set_option maxRecDepth 100000 in
theorem weight_c {n : Nat} (hn : 20 ≤ n) (c : Cnn) (p q r : ByteArray) (st : Bool) (S : List Ob) : callD E (dcall E n) st S 33 [.agg c.enc, .str p, .str q, .str r] = some (.int .i64 (wtS (fldS c.a p) (fldS c.i q) (fldS c.o r)), S) := by
  obtain ⟨m, rfl⟩ : ∃ m, n = m + 7 + 1 := ⟨n - 8, by omega⟩
  have : WO (dcall E (m + 7 + 1) 33 [.agg c.enc, .str p, .str q, .str r] []) fun d T => d = .int .i64 (wtS (fldS c.a p) (fldS c.i q) (fldS c.o r)) ∧ True := by
    refine wo_dcall Tryd.func33 rfl (by decide) rfl 46 rfl (fun a hal ha => ?_)
    have h0 : a[0]? = some (.agg c.enc) := ha 0 (by simp)
    have h1 : a[1]? = some (.str p) := ha 1 (by simp)
    have h2 : a[2]? = some (.str q) := ha 2 (by simp)
    have h3 : a[3]? = some (.str r) := ha 3 (by simp)
    clear ha
    obtain ⟨ca, ci, co, cm⟩ := c
    simp only [Cnn.enc] at h0
    unfold fldS eqS emp
    generalize ea : (ca.toList == (ByteArray.mk #[]).toList) = a1
    generalize ei : (ci.toList == (ByteArray.mk #[]).toList) = i1
    generalize eo : (co.toList == (ByteArray.mk #[]).toList) = o1
    generalize fa : (ca.toList == p.toList) = a2
    generalize fi : (ci.toList == q.toList) = i2
    generalize fo : (co.toList == r.toList) = o2
    cases a1 <;> cases a2 <;> cases i1 <;> cases i2 <;> cases o1 <;> cases o2 <;>
    · simp (maxSteps := 1000000) (disch := omega) only [push_cast, ↓wc_seq, ↓wc_block, ↓wc_scope, ↓wc_condL, ↓wc_region, ↓wr_cons, ↓wr_consgL, ↓wr_nil, ↓wo_pickL, ↓wo_callf, ↓wc_exit, ↓wc_ret, ↓wc_skip, ↓wc_wl, wo_some, wo_none, wo_ite, opQ_eq, seqQ_normal, seqQ_exit, seqQ_ret, blockQ_normal, blockQ_exit, blockQ_ret, iterQ_normal, iterQ_exit, iterQ_ret, retQ_normal, retQ_ret, retQ_exit, pickC_true, pickC_false, pickO_true, pickO_false, gstep_tt, gstep_ff, gstep_tf, gstep_ft, gstep_skip, int_bne, int_beq, decide_not, Nat.reduceAdd, Nat.reduceMul, Nat.reduceSub, Nat.reducePow, Nat.reduceLT, Nat.reduceLeDiff, Nat.reduceEqDiff, Int.reduceToNat, Int.reduceAdd, Int.reduceSub, Int.reduceNeg, Int.reduceMul, Int.reduceLT, Int.reduceLE, Int.reduceEq, le_max, ↓wo_build, ↓wo_buildSlice, evParts, ↓reduceIte, planIds, hasExt, cntFs, idxFs, clnFs, ovlFs, List.contains_cons, List.contains_nil, List.any_cons, List.any_nil, Nat.reduceBEq, setC, List.length_set, decide_eq_true_eq, decide_eq_false_iff_not, true_implies, false_implies, forall_const, reduceCtorEq, eq_self, Int.natCast_nonneg, Int.toNat_natCast, Int.ofNat_lt, D.int.injEq, Option.some.injEq, Nat.zero_add, Nat.add_zero, bne_iff_ne, bne_eq_false_iff_eq, beq_iff_eq, beq_eq_false_iff_ne, gt_iff_lt, ne_eq, not_true_eq_false, not_false_eq_true, planIds, hasExt, cntFs, idxFs, clnFs, ovlFs, List.contains_cons, List.contains_nil, List.any_cons, List.any_nil, Nat.reduceBEq, Nat.reduceMul, Nat.reduceAdd, ↓reduceIte, hal, h0, h1, h2, h3, ea, ei, eo, fa, fi, fo, set_end, get_end, wl_wln, ↓wln_succ, loopQ_normal, loopQ_exit, loopQ_ret, wrap_ok, sh0, sh1, sh2, wtS, Tryd.f33]
  obtain ⟨d, T, ho, rfl, -⟩ := this
  exact callD_pure rfl (by simp [pureL, D.pure, Cnn.enc]) ho rfl
set_option maxHeartbeats 4000000 in
set_option maxRecDepth 100000 in
theorem rank_c {n : Nat} (hn : 2 ≤ n) (c : Cnn) (p q r : ByteArray) (st : Bool) (S : List Ob) : callD E (dcall E n) st S 34 [.agg c.enc, .str p, .str q, .str r] = some (.int .i64 (rkS (fldS c.a p) (fldS c.i q) (fldS c.o r)), S) := by
  obtain ⟨m, rfl⟩ : ∃ m, n = m + 1 := ⟨n - 1, by omega⟩
  have : WO (dcall E (m + 1) 34 [.agg c.enc, .str p, .str q, .str r] []) fun d T => d = .int .i64 (rkS (fldS c.a p) (fldS c.i q) (fldS c.o r)) ∧ True := by
    refine wo_dcall Tryd.func34 rfl (by decide) rfl 40 rfl (fun a hal ha => ?_)
    have h0 : a[0]? = some (.agg c.enc) := ha 0 (by simp)
    have h1 : a[1]? = some (.str p) := ha 1 (by simp)
    have h2 : a[2]? = some (.str q) := ha 2 (by simp)
    have h3 : a[3]? = some (.str r) := ha 3 (by simp)
    clear ha
    obtain ⟨ca, ci, co, cm⟩ := c
    simp only [Cnn.enc] at h0
    unfold fldS eqS emp
    generalize ea : (ca.toList == (ByteArray.mk #[]).toList) = a1
    generalize ei : (ci.toList == (ByteArray.mk #[]).toList) = i1
    generalize eo : (co.toList == (ByteArray.mk #[]).toList) = o1
    generalize fa : (ca.toList == p.toList) = a2
    generalize fi : (ci.toList == q.toList) = i2
    generalize fo : (co.toList == r.toList) = o2
    cases a1 <;> cases a2 <;> cases i1 <;> cases i2 <;> cases o1 <;> cases o2 <;>
    · simp (maxSteps := 1000000) (disch := omega) only [push_cast, ↓wc_seq, ↓wc_block, ↓wc_scope, ↓wc_condL, ↓wc_region, ↓wr_cons, ↓wr_consgL, ↓wr_nil, ↓wo_pickL, ↓wo_callf, ↓wc_exit, ↓wc_ret, ↓wc_skip, ↓wc_wl, wo_some, wo_none, wo_ite, opQ_eq, seqQ_normal, seqQ_exit, seqQ_ret, blockQ_normal, blockQ_exit, blockQ_ret, iterQ_normal, iterQ_exit, iterQ_ret, retQ_normal, retQ_ret, retQ_exit, pickC_true, pickC_false, pickO_true, pickO_false, gstep_tt, gstep_ff, gstep_tf, gstep_ft, gstep_skip, int_bne, int_beq, decide_not, Nat.reduceAdd, Nat.reduceMul, Nat.reduceSub, Nat.reducePow, Nat.reduceLT, Nat.reduceLeDiff, Nat.reduceEqDiff, Int.reduceToNat, Int.reduceAdd, Int.reduceSub, Int.reduceNeg, Int.reduceMul, Int.reduceLT, Int.reduceLE, Int.reduceEq, le_max, ↓wo_build, ↓wo_buildSlice, evParts, ↓reduceIte, planIds, hasExt, cntFs, idxFs, clnFs, ovlFs, List.contains_cons, List.contains_nil, List.any_cons, List.any_nil, Nat.reduceBEq, setC, List.length_set, decide_eq_true_eq, decide_eq_false_iff_not, true_implies, false_implies, forall_const, reduceCtorEq, eq_self, Int.natCast_nonneg, Int.toNat_natCast, Int.ofNat_lt, D.int.injEq, Option.some.injEq, Nat.zero_add, Nat.add_zero, bne_iff_ne, bne_eq_false_iff_eq, beq_iff_eq, beq_eq_false_iff_ne, gt_iff_lt, ne_eq, not_true_eq_false, not_false_eq_true, planIds, hasExt, cntFs, idxFs, clnFs, ovlFs, List.contains_cons, List.contains_nil, List.any_cons, List.any_nil, Nat.reduceBEq, Nat.reduceMul, Nat.reduceAdd, ↓reduceIte, hal, h0, h1, h2, h3, ea, ei, eo, fa, fi, fo, set_end, get_end, wrap_ok, rkS, Tryd.f34]
  obtain ⟨d, T, ho, rfl, -⟩ := this
  exact callD_pure rfl (by simp [pureL, D.pure, Cnn.enc]) ho rfl
def obs : List (Option Bool) := [none, some true, some false]
theorem obs_mem (p : Option Bool) : p ∈ obs := by
  rcases p with _ | _ | _ <;> simp [obs]
theorem wt_all : (obs.all fun p => obs.all fun q => obs.all fun r => obs.all fun p' => obs.all fun q' => obs.all fun r' => decide (wtS p q r < wtS p' q' r') == decide (rkS p q r < rkS p' q' r')) = true := by kernel_rfl
/-- The two measures have the same order. -/
theorem wt_rk (p q r p' q' r' : Option Bool) : decide (wtS p q r < wtS p' q' r') = decide (rkS p q r < rkS p' q' r') := by
  have h := wt_all
  simp only [List.all_eq_true] at h
  simpa using h p (obs_mem p) q (obs_mem q) r (obs_mem r) p' (obs_mem p') q' (obs_mem q') r' (obs_mem r')

structure Sgm where
  c : ByteArray
  n : Int
  d : Int
  f : ByteArray
  t : ByteArray
  dep : Int
  arr : Int
def Sgm.enc (s : Sgm) : List D := [.str s.c, .int .i64 s.n, .int .i64 s.d, .str s.f, .str s.t, .int .i64 s.dep, .int .i64 s.arr]
theorem cnn_pure (l : List Cnn) : pureLL (l.map Cnn.enc) = true := by
  induction l with
  | nil => rfl
  | cons f fs ih => rw [List.map_cons, pureLL_cons, ih]; rfl
theorem sgm_pure (l : List Sgm) : pureLL (l.map Sgm.enc) = true := by
  induction l with
  | nil => rfl
  | cons f fs ih => rw [List.map_cons, pureLL_cons, ih]; rfl
/-- The minutes of the best element: the first of the greatest measure. -/
def minF (w : Cnn → Int) (m b : Int) : List Cnn → Int
  | [] => m
  | c :: l => if b < w c then minF w c.m (w c) l else minF w m b l
def wtC (p q r : ByteArray) (c : Cnn) : Int := wtS (fldS c.a p) (fldS c.i q) (fldS c.o r)
def rkC (p q r : ByteArray) (c : Cnn) : Int := rkS (fldS c.a p) (fldS c.i q) (fldS c.o r)
def minL (p q r : ByteArray) (l : List Cnn) : Int := minF (wtC p q r) 60 (-1) l
theorem min_same (p q r : ByteArray) : ∀ (l : List Cnn) (m : Int) (a b c : Option Bool), minF (wtC p q r) m (wtS a b c) l = minF (rkC p q r) m (rkS a b c) l
  | [], _, _, _, _ => rfl
  | e :: l, m, a, b, c => by
    unfold minF
    have h := wt_rk a b c (fldS e.a p) (fldS e.i q) (fldS e.o r)
    by_cases g : wtS a b c < wtC p q r e
    · have g' : rkS a b c < rkC p q r e := of_decide_eq_true (h ▸ decide_eq_true g)
      rw [if_pos g, if_pos g']
      exact min_same p q r l _ _ _ _
    · have g' : ¬ rkS a b c < rkC p q r e := of_decide_eq_false (h ▸ decide_eq_false g)
      rw [if_neg g, if_neg g']
      exact min_same p q r l _ _ _ _
theorem min_ref (p q r : ByteArray) (l : List Cnn) : minF (rkC p q r) 60 (-1) l = minL p q r l := (min_same p q r l 60 (some false) none none).symm
set_option maxHeartbeats 4000000 in
set_option maxRecDepth 100000 in
theorem Minutes_d {n : Nat} {l : List Cnn} {x : Bool} {p q r : ByteArray} {S : List Ob} (hl : l.length ≤ 1000) (hn : l.length + 30 ≤ n) :
    WO (dcall E (n + 1) 13 [.sl 4 (l.map Cnn.enc) x, .str p, .str q, .str r] S) fun d T => d = .int .i64 (minL p q r l) ∧ ExtS S T := by
  refine wo_dcall Tryd.func13 rfl (by decide) rfl 33 rfl (fun a hal ha => ?_)
  have h0 : a[0]? = some (.sl 4 (l.map Cnn.enc) x) := ha 0 (by simp)
  have h1 : a[1]? = some (.str p) := ha 1 (by simp)
  have h2 : a[2]? = some (.str q) := ha 2 (by simp)
  have h3 : a[3]? = some (.str r) := ha 3 (by simp)
  clear ha
  simp (maxSteps := 1000000) (disch := omega) only [push_cast, ↓wc_seq, ↓wc_block, ↓wc_scope, ↓wc_condL, ↓wc_region, ↓wr_cons, ↓wr_consgL, ↓wr_nil, ↓wo_pickL, ↓wo_callf, ↓wc_exit, ↓wc_ret, ↓wc_skip, ↓wc_wl, wo_some, wo_none, wo_ite, opQ_eq, seqQ_normal, seqQ_exit, seqQ_ret, blockQ_normal, blockQ_exit, blockQ_ret, iterQ_normal, iterQ_exit, iterQ_ret, retQ_normal, retQ_ret, retQ_exit, pickC_true, pickC_false, pickO_true, pickO_false, gstep_tt, gstep_ff, gstep_tf, gstep_ft, gstep_skip, int_bne, int_beq, decide_not, Nat.reduceAdd, Nat.reduceMul, Nat.reduceSub, Nat.reducePow, Nat.reduceLT, Nat.reduceLeDiff, Nat.reduceEqDiff, Int.reduceToNat, Int.reduceAdd, Int.reduceSub, Int.reduceNeg, Int.reduceMul, Int.reduceLT, Int.reduceLE, Int.reduceEq, le_max, ↓wo_build, ↓wo_buildSlice, evParts, ↓reduceIte, planIds, hasExt, cntFs, idxFs, clnFs, ovlFs, List.contains_cons, List.contains_nil, List.any_cons, List.any_nil, Nat.reduceBEq, setC, List.length_set, decide_eq_true_eq, decide_eq_false_iff_not, true_implies, false_implies, forall_const, reduceCtorEq, eq_self, Int.natCast_nonneg, Int.toNat_natCast, Int.ofNat_lt, D.int.injEq, Option.some.injEq, Nat.zero_add, Nat.add_zero, bne_iff_ne, bne_eq_false_iff_eq, beq_iff_eq, beq_eq_false_iff_ne, gt_iff_lt, ne_eq, not_true_eq_false, not_false_eq_true, planIds, hasExt, cntFs, idxFs, clnFs, ovlFs, List.contains_cons, List.contains_nil, List.any_cons, List.any_nil, Nat.reduceBEq, Nat.reduceMul, Nat.reduceAdd, ↓reduceIte, hal, h0, h1, h2, h3, List.length_map]
  refine wl_loop (fun i a T => ∃ m b, a.length = 33 ∧ a[1]? = some (.str p) ∧ a[2]? = some (.str q) ∧ a[3]? = some (.str r) ∧ a[9]? = some (.int .i64 m) ∧ a[10]? = some (.int .i64 b) ∧ a[14]? = some (.sl 4 (l.map Cnn.enc) x) ∧ a[15]? = some (.int .i64 l.length) ∧ a[16]? = some (.int .i64 i) ∧ minL p q r l = minF (wtC p q r) m b (l.drop i) ∧ ExtS S T) l.length ?_ (by omega) ?_
  · simp (maxSteps := 1000000) (disch := omega) only [push_cast, ↓wc_seq, ↓wc_block, ↓wc_scope, ↓wc_condL, ↓wc_region, ↓wr_cons, ↓wr_consgL, ↓wr_nil, ↓wo_pickL, ↓wo_callf, ↓wc_exit, ↓wc_ret, ↓wc_skip, ↓wc_wl, wo_some, wo_none, wo_ite, opQ_eq, seqQ_normal, seqQ_exit, seqQ_ret, blockQ_normal, blockQ_exit, blockQ_ret, iterQ_normal, iterQ_exit, iterQ_ret, retQ_normal, retQ_ret, retQ_exit, pickC_true, pickC_false, pickO_true, pickO_false, gstep_tt, gstep_ff, gstep_tf, gstep_ft, gstep_skip, int_bne, int_beq, decide_not, Nat.reduceAdd, Nat.reduceMul, Nat.reduceSub, Nat.reducePow, Nat.reduceLT, Nat.reduceLeDiff, Nat.reduceEqDiff, Int.reduceToNat, Int.reduceAdd, Int.reduceSub, Int.reduceNeg, Int.reduceMul, Int.reduceLT, Int.reduceLE, Int.reduceEq, le_max, ↓wo_build, ↓wo_buildSlice, evParts, ↓reduceIte, planIds, hasExt, cntFs, idxFs, clnFs, ovlFs, List.contains_cons, List.contains_nil, List.any_cons, List.any_nil, Nat.reduceBEq, setC, List.length_set, decide_eq_true_eq, decide_eq_false_iff_not, true_implies, false_implies, forall_const, reduceCtorEq, eq_self, Int.natCast_nonneg, Int.toNat_natCast, Int.ofNat_lt, D.int.injEq, Option.some.injEq, Nat.zero_add, Nat.add_zero, bne_iff_ne, bne_eq_false_iff_eq, beq_iff_eq, beq_eq_false_iff_ne, gt_iff_lt, ne_eq, not_true_eq_false, not_false_eq_true, planIds, hasExt, cntFs, idxFs, clnFs, ovlFs, List.contains_cons, List.contains_nil, List.any_cons, List.any_nil, Nat.reduceBEq, Nat.reduceMul, Nat.reduceAdd, ↓reduceIte, hal, h0, h1, h2, h3, Int.natCast_zero]
    exact ⟨60, -1, rfl, rfl, rfl, ExtS.refl⟩
  clear hal h0 h1 h2 h3 a
  rintro i a T hi ⟨m, b, hal, h1, h2, h3, h9, h10, h14, h15, h16, hv, hx⟩
  rcases Nat.lt_or_eq_of_le hi with hlt | rfl
  · obtain ⟨c, hc⟩ : ∃ c, l[i]? = some c := ⟨l[i], by simp [hlt]⟩
    rw [drop_at hc, minF] at hv
    have w : ∀ st S, callD E (dcall E n) st S 33 [.agg c.enc, .str p, .str q, .str r] = some (.int .i64 (wtC p q r c), S) := fun st S => weight_c (by omega) c p q r st S
    generalize wtC p q r c = wc at *
    simp only [Cnn.enc] at w
    by_cases g : b < wc
    · rw [if_pos g] at hv
      simp (maxSteps := 1000000) (disch := omega) only [push_cast, ↓wc_seq, ↓wc_block, ↓wc_scope, ↓wc_condL, ↓wc_region, ↓wr_cons, ↓wr_consgL, ↓wr_nil, ↓wo_pickL, ↓wo_callf, ↓wc_exit, ↓wc_ret, ↓wc_skip, ↓wc_wl, wo_some, wo_none, wo_ite, opQ_eq, seqQ_normal, seqQ_exit, seqQ_ret, blockQ_normal, blockQ_exit, blockQ_ret, iterQ_normal, iterQ_exit, iterQ_ret, retQ_normal, retQ_ret, retQ_exit, pickC_true, pickC_false, pickO_true, pickO_false, gstep_tt, gstep_ff, gstep_tf, gstep_ft, gstep_skip, int_bne, int_beq, decide_not, Nat.reduceAdd, Nat.reduceMul, Nat.reduceSub, Nat.reducePow, Nat.reduceLT, Nat.reduceLeDiff, Nat.reduceEqDiff, Int.reduceToNat, Int.reduceAdd, Int.reduceSub, Int.reduceNeg, Int.reduceMul, Int.reduceLT, Int.reduceLE, Int.reduceEq, le_max, ↓wo_build, ↓wo_buildSlice, evParts, ↓reduceIte, planIds, hasExt, cntFs, idxFs, clnFs, ovlFs, List.contains_cons, List.contains_nil, List.any_cons, List.any_nil, Nat.reduceBEq, setC, List.length_set, decide_eq_true_eq, decide_eq_false_iff_not, true_implies, false_implies, forall_const, reduceCtorEq, eq_self, Int.natCast_nonneg, Int.toNat_natCast, Int.ofNat_lt, D.int.injEq, Option.some.injEq, Nat.zero_add, Nat.add_zero, bne_iff_ne, bne_eq_false_iff_eq, beq_iff_eq, beq_eq_false_iff_ne, gt_iff_lt, ne_eq, not_true_eq_false, not_false_eq_true, planIds, hasExt, cntFs, idxFs, clnFs, ovlFs, List.contains_cons, List.contains_nil, List.any_cons, List.any_nil, Nat.reduceBEq, Nat.reduceMul, Nat.reduceAdd, ↓reduceIte, hal, h1, h2, h3, h9, h10, h14, h15, h16, hlt, hc, List.getElem?_map, Cnn.enc, set_end, get_end, w, g, wrap_ok, Int.natCast_add, Int.natCast_one]
      exact ⟨_, _, rfl, rfl, hv, hx.push _⟩
    · rw [if_neg g] at hv
      simp (maxSteps := 1000000) (disch := omega) only [push_cast, ↓wc_seq, ↓wc_block, ↓wc_scope, ↓wc_condL, ↓wc_region, ↓wr_cons, ↓wr_consgL, ↓wr_nil, ↓wo_pickL, ↓wo_callf, ↓wc_exit, ↓wc_ret, ↓wc_skip, ↓wc_wl, wo_some, wo_none, wo_ite, opQ_eq, seqQ_normal, seqQ_exit, seqQ_ret, blockQ_normal, blockQ_exit, blockQ_ret, iterQ_normal, iterQ_exit, iterQ_ret, retQ_normal, retQ_ret, retQ_exit, pickC_true, pickC_false, pickO_true, pickO_false, gstep_tt, gstep_ff, gstep_tf, gstep_ft, gstep_skip, int_bne, int_beq, decide_not, Nat.reduceAdd, Nat.reduceMul, Nat.reduceSub, Nat.reducePow, Nat.reduceLT, Nat.reduceLeDiff, Nat.reduceEqDiff, Int.reduceToNat, Int.reduceAdd, Int.reduceSub, Int.reduceNeg, Int.reduceMul, Int.reduceLT, Int.reduceLE, Int.reduceEq, le_max, ↓wo_build, ↓wo_buildSlice, evParts, ↓reduceIte, planIds, hasExt, cntFs, idxFs, clnFs, ovlFs, List.contains_cons, List.contains_nil, List.any_cons, List.any_nil, Nat.reduceBEq, setC, List.length_set, decide_eq_true_eq, decide_eq_false_iff_not, true_implies, false_implies, forall_const, reduceCtorEq, eq_self, Int.natCast_nonneg, Int.toNat_natCast, Int.ofNat_lt, D.int.injEq, Option.some.injEq, Nat.zero_add, Nat.add_zero, bne_iff_ne, bne_eq_false_iff_eq, beq_iff_eq, beq_eq_false_iff_ne, gt_iff_lt, ne_eq, not_true_eq_false, not_false_eq_true, planIds, hasExt, cntFs, idxFs, clnFs, ovlFs, List.contains_cons, List.contains_nil, List.any_cons, List.any_nil, Nat.reduceBEq, Nat.reduceMul, Nat.reduceAdd, ↓reduceIte, hal, h1, h2, h3, h9, h10, h14, h15, h16, hlt, hc, List.getElem?_map, Cnn.enc, set_end, get_end, w, g, wrap_ok, Int.natCast_add, Int.natCast_one]
      exact ⟨_, _, rfl, rfl, hv, hx.push _⟩
  · rw [List.drop_length, minF] at hv
    simp (maxSteps := 1000000) (disch := omega) only [push_cast, ↓wc_seq, ↓wc_block, ↓wc_scope, ↓wc_condL, ↓wc_region, ↓wr_cons, ↓wr_consgL, ↓wr_nil, ↓wo_pickL, ↓wo_callf, ↓wc_exit, ↓wc_ret, ↓wc_skip, ↓wc_wl, wo_some, wo_none, wo_ite, opQ_eq, seqQ_normal, seqQ_exit, seqQ_ret, blockQ_normal, blockQ_exit, blockQ_ret, iterQ_normal, iterQ_exit, iterQ_ret, retQ_normal, retQ_ret, retQ_exit, pickC_true, pickC_false, pickO_true, pickO_false, gstep_tt, gstep_ff, gstep_tf, gstep_ft, gstep_skip, int_bne, int_beq, decide_not, Nat.reduceAdd, Nat.reduceMul, Nat.reduceSub, Nat.reducePow, Nat.reduceLT, Nat.reduceLeDiff, Nat.reduceEqDiff, Int.reduceToNat, Int.reduceAdd, Int.reduceSub, Int.reduceNeg, Int.reduceMul, Int.reduceLT, Int.reduceLE, Int.reduceEq, le_max, ↓wo_build, ↓wo_buildSlice, evParts, ↓reduceIte, planIds, hasExt, cntFs, idxFs, clnFs, ovlFs, List.contains_cons, List.contains_nil, List.any_cons, List.any_nil, Nat.reduceBEq, setC, List.length_set, decide_eq_true_eq, decide_eq_false_iff_not, true_implies, false_implies, forall_const, reduceCtorEq, eq_self, Int.natCast_nonneg, Int.toNat_natCast, Int.ofNat_lt, D.int.injEq, Option.some.injEq, Nat.zero_add, Nat.add_zero, bne_iff_ne, bne_eq_false_iff_eq, beq_iff_eq, beq_eq_false_iff_ne, gt_iff_lt, ne_eq, not_true_eq_false, not_false_eq_true, planIds, hasExt, cntFs, idxFs, clnFs, ovlFs, List.contains_cons, List.contains_nil, List.any_cons, List.any_nil, Nat.reduceBEq, Nat.reduceMul, Nat.reduceAdd, ↓reduceIte, hal, h1, h2, h3, h9, h10, h14, h15, h16, Nat.lt_irrefl, Tryd.f13]
    exact ⟨hv.symm, hx⟩
theorem Minutes_c {n : Nat} {l : List Cnn} {x : Bool} {p q r : ByteArray} (hl : l.length ≤ 1000) (hn : l.length + 31 ≤ n) (st : Bool) (S : List Ob) :
    callD E (dcall E n) st S 13 [.sl 4 (l.map Cnn.enc) x, .str p, .str q, .str r] = some (.int .i64 (minL p q r l), S) := by
  obtain ⟨m, rfl⟩ : ∃ m, n = m + 1 := ⟨n - 1, by omega⟩
  obtain ⟨d, T, ho, rfl, -⟩ := Minutes_d (n := m) (x := x) (p := p) (q := q) (r := r) (S := []) hl (by omega)
  exact callD_pure rfl (by simp [pureL_cons, pureL_nil, D.pure, cnn_pure]) ho rfl
set_option maxHeartbeats 4000000 in
set_option maxRecDepth 100000 in
theorem ref_Minutes_d {n : Nat} {l : List Cnn} {x : Bool} {p q r : ByteArray} {S : List Ob} (hl : l.length ≤ 1000) (hn : l.length + 30 ≤ n) :
    WO (dcall E (n + 1) 14 [.sl 4 (l.map Cnn.enc) x, .str p, .str q, .str r] S) fun d T => d = .int .i64 (minL p q r l) ∧ ExtS S T := by
  refine wo_dcall Tryd.func14 rfl (by decide) rfl 37 rfl (fun a hal ha => ?_)
  have h0 : a[0]? = some (.sl 4 (l.map Cnn.enc) x) := ha 0 (by simp)
  have h1 : a[1]? = some (.str p) := ha 1 (by simp)
  have h2 : a[2]? = some (.str q) := ha 2 (by simp)
  have h3 : a[3]? = some (.str r) := ha 3 (by simp)
  clear ha
  simp (maxSteps := 1000000) (disch := omega) only [push_cast, ↓wc_seq, ↓wc_block, ↓wc_scope, ↓wc_condL, ↓wc_region, ↓wr_cons, ↓wr_consgL, ↓wr_nil, ↓wo_pickL, ↓wo_callf, ↓wc_exit, ↓wc_ret, ↓wc_skip, ↓wc_wl, wo_some, wo_none, wo_ite, opQ_eq, seqQ_normal, seqQ_exit, seqQ_ret, blockQ_normal, blockQ_exit, blockQ_ret, iterQ_normal, iterQ_exit, iterQ_ret, retQ_normal, retQ_ret, retQ_exit, pickC_true, pickC_false, pickO_true, pickO_false, gstep_tt, gstep_ff, gstep_tf, gstep_ft, gstep_skip, int_bne, int_beq, decide_not, Nat.reduceAdd, Nat.reduceMul, Nat.reduceSub, Nat.reducePow, Nat.reduceLT, Nat.reduceLeDiff, Nat.reduceEqDiff, Int.reduceToNat, Int.reduceAdd, Int.reduceSub, Int.reduceNeg, Int.reduceMul, Int.reduceLT, Int.reduceLE, Int.reduceEq, le_max, ↓wo_build, ↓wo_buildSlice, evParts, ↓reduceIte, planIds, hasExt, cntFs, idxFs, clnFs, ovlFs, List.contains_cons, List.contains_nil, List.any_cons, List.any_nil, Nat.reduceBEq, setC, List.length_set, decide_eq_true_eq, decide_eq_false_iff_not, true_implies, false_implies, forall_const, reduceCtorEq, eq_self, Int.natCast_nonneg, Int.toNat_natCast, Int.ofNat_lt, D.int.injEq, Option.some.injEq, Nat.zero_add, Nat.add_zero, bne_iff_ne, bne_eq_false_iff_eq, beq_iff_eq, beq_eq_false_iff_ne, gt_iff_lt, ne_eq, not_true_eq_false, not_false_eq_true, planIds, hasExt, cntFs, idxFs, clnFs, ovlFs, List.contains_cons, List.contains_nil, List.any_cons, List.any_nil, Nat.reduceBEq, Nat.reduceMul, Nat.reduceAdd, ↓reduceIte, hal, h0, h1, h2, h3, List.length_map]
  refine wl_loop (fun i a T => ∃ m b, a.length = 37 ∧ a[0]? = some (.sl 4 (l.map Cnn.enc) x) ∧ a[1]? = some (.str p) ∧ a[2]? = some (.str q) ∧ a[3]? = some (.str r) ∧ a[9]? = some (.int .i64 b) ∧ a[10]? = some (.int .i64 m) ∧ a[11]? = some (.int .i64 i) ∧ minL p q r l = minF (rkC p q r) m b (l.drop i) ∧ ExtS S T) l.length ?_ (by omega) ?_
  · simp (maxSteps := 1000000) (disch := omega) only [push_cast, ↓wc_seq, ↓wc_block, ↓wc_scope, ↓wc_condL, ↓wc_region, ↓wr_cons, ↓wr_consgL, ↓wr_nil, ↓wo_pickL, ↓wo_callf, ↓wc_exit, ↓wc_ret, ↓wc_skip, ↓wc_wl, wo_some, wo_none, wo_ite, opQ_eq, seqQ_normal, seqQ_exit, seqQ_ret, blockQ_normal, blockQ_exit, blockQ_ret, iterQ_normal, iterQ_exit, iterQ_ret, retQ_normal, retQ_ret, retQ_exit, pickC_true, pickC_false, pickO_true, pickO_false, gstep_tt, gstep_ff, gstep_tf, gstep_ft, gstep_skip, int_bne, int_beq, decide_not, Nat.reduceAdd, Nat.reduceMul, Nat.reduceSub, Nat.reducePow, Nat.reduceLT, Nat.reduceLeDiff, Nat.reduceEqDiff, Int.reduceToNat, Int.reduceAdd, Int.reduceSub, Int.reduceNeg, Int.reduceMul, Int.reduceLT, Int.reduceLE, Int.reduceEq, le_max, ↓wo_build, ↓wo_buildSlice, evParts, ↓reduceIte, planIds, hasExt, cntFs, idxFs, clnFs, ovlFs, List.contains_cons, List.contains_nil, List.any_cons, List.any_nil, Nat.reduceBEq, setC, List.length_set, decide_eq_true_eq, decide_eq_false_iff_not, true_implies, false_implies, forall_const, reduceCtorEq, eq_self, Int.natCast_nonneg, Int.toNat_natCast, Int.ofNat_lt, D.int.injEq, Option.some.injEq, Nat.zero_add, Nat.add_zero, bne_iff_ne, bne_eq_false_iff_eq, beq_iff_eq, beq_eq_false_iff_ne, gt_iff_lt, ne_eq, not_true_eq_false, not_false_eq_true, planIds, hasExt, cntFs, idxFs, clnFs, ovlFs, List.contains_cons, List.contains_nil, List.any_cons, List.any_nil, Nat.reduceBEq, Nat.reduceMul, Nat.reduceAdd, ↓reduceIte, hal, h0, h1, h2, h3, Int.natCast_zero]
    exact ⟨60, -1, rfl, rfl, (min_ref p q r l).symm, ExtS.refl⟩
  clear hal h0 h1 h2 h3 a
  rintro i a T hi ⟨m, b, hal, h0, h1, h2, h3, h9, h10, h11, hv, hx⟩
  rcases Nat.lt_or_eq_of_le hi with hlt | rfl
  · obtain ⟨c, hc⟩ : ∃ c, l[i]? = some c := ⟨l[i], by simp [hlt]⟩
    rw [drop_at hc, minF] at hv
    have w : ∀ st S, callD E (dcall E n) st S 34 [.agg c.enc, .str p, .str q, .str r] = some (.int .i64 (rkC p q r c), S) := fun st S => rank_c (by omega) c p q r st S
    generalize rkC p q r c = wc at *
    simp only [Cnn.enc] at w
    by_cases g : b < wc
    · rw [if_pos g] at hv
      simp (maxSteps := 1000000) (disch := omega) only [push_cast, ↓wc_seq, ↓wc_block, ↓wc_scope, ↓wc_condL, ↓wc_region, ↓wr_cons, ↓wr_consgL, ↓wr_nil, ↓wo_pickL, ↓wo_callf, ↓wc_exit, ↓wc_ret, ↓wc_skip, ↓wc_wl, wo_some, wo_none, wo_ite, opQ_eq, seqQ_normal, seqQ_exit, seqQ_ret, blockQ_normal, blockQ_exit, blockQ_ret, iterQ_normal, iterQ_exit, iterQ_ret, retQ_normal, retQ_ret, retQ_exit, pickC_true, pickC_false, pickO_true, pickO_false, gstep_tt, gstep_ff, gstep_tf, gstep_ft, gstep_skip, int_bne, int_beq, decide_not, Nat.reduceAdd, Nat.reduceMul, Nat.reduceSub, Nat.reducePow, Nat.reduceLT, Nat.reduceLeDiff, Nat.reduceEqDiff, Int.reduceToNat, Int.reduceAdd, Int.reduceSub, Int.reduceNeg, Int.reduceMul, Int.reduceLT, Int.reduceLE, Int.reduceEq, le_max, ↓wo_build, ↓wo_buildSlice, evParts, ↓reduceIte, planIds, hasExt, cntFs, idxFs, clnFs, ovlFs, List.contains_cons, List.contains_nil, List.any_cons, List.any_nil, Nat.reduceBEq, setC, List.length_set, decide_eq_true_eq, decide_eq_false_iff_not, true_implies, false_implies, forall_const, reduceCtorEq, eq_self, Int.natCast_nonneg, Int.toNat_natCast, Int.ofNat_lt, D.int.injEq, Option.some.injEq, Nat.zero_add, Nat.add_zero, bne_iff_ne, bne_eq_false_iff_eq, beq_iff_eq, beq_eq_false_iff_ne, gt_iff_lt, ne_eq, not_true_eq_false, not_false_eq_true, planIds, hasExt, cntFs, idxFs, clnFs, ovlFs, List.contains_cons, List.contains_nil, List.any_cons, List.any_nil, Nat.reduceBEq, Nat.reduceMul, Nat.reduceAdd, ↓reduceIte, hal, h0, h1, h2, h3, h9, h10, h11, hlt, hc, List.length_map, List.getElem?_map, Cnn.enc, set_end, get_end, w, g, wrap_ok, Int.natCast_add, Int.natCast_one]
      exact ⟨_, _, rfl, rfl, hv, hx⟩
    · rw [if_neg g] at hv
      simp (maxSteps := 1000000) (disch := omega) only [push_cast, ↓wc_seq, ↓wc_block, ↓wc_scope, ↓wc_condL, ↓wc_region, ↓wr_cons, ↓wr_consgL, ↓wr_nil, ↓wo_pickL, ↓wo_callf, ↓wc_exit, ↓wc_ret, ↓wc_skip, ↓wc_wl, wo_some, wo_none, wo_ite, opQ_eq, seqQ_normal, seqQ_exit, seqQ_ret, blockQ_normal, blockQ_exit, blockQ_ret, iterQ_normal, iterQ_exit, iterQ_ret, retQ_normal, retQ_ret, retQ_exit, pickC_true, pickC_false, pickO_true, pickO_false, gstep_tt, gstep_ff, gstep_tf, gstep_ft, gstep_skip, int_bne, int_beq, decide_not, Nat.reduceAdd, Nat.reduceMul, Nat.reduceSub, Nat.reducePow, Nat.reduceLT, Nat.reduceLeDiff, Nat.reduceEqDiff, Int.reduceToNat, Int.reduceAdd, Int.reduceSub, Int.reduceNeg, Int.reduceMul, Int.reduceLT, Int.reduceLE, Int.reduceEq, le_max, ↓wo_build, ↓wo_buildSlice, evParts, ↓reduceIte, planIds, hasExt, cntFs, idxFs, clnFs, ovlFs, List.contains_cons, List.contains_nil, List.any_cons, List.any_nil, Nat.reduceBEq, setC, List.length_set, decide_eq_true_eq, decide_eq_false_iff_not, true_implies, false_implies, forall_const, reduceCtorEq, eq_self, Int.natCast_nonneg, Int.toNat_natCast, Int.ofNat_lt, D.int.injEq, Option.some.injEq, Nat.zero_add, Nat.add_zero, bne_iff_ne, bne_eq_false_iff_eq, beq_iff_eq, beq_eq_false_iff_ne, gt_iff_lt, ne_eq, not_true_eq_false, not_false_eq_true, planIds, hasExt, cntFs, idxFs, clnFs, ovlFs, List.contains_cons, List.contains_nil, List.any_cons, List.any_nil, Nat.reduceBEq, Nat.reduceMul, Nat.reduceAdd, ↓reduceIte, hal, h0, h1, h2, h3, h9, h10, h11, hlt, hc, List.length_map, List.getElem?_map, Cnn.enc, set_end, get_end, w, g, wrap_ok, Int.natCast_add, Int.natCast_one]
      exact ⟨_, _, rfl, rfl, hv, hx⟩
  · rw [List.drop_length, minF] at hv
    simp (maxSteps := 1000000) (disch := omega) only [push_cast, ↓wc_seq, ↓wc_block, ↓wc_scope, ↓wc_condL, ↓wc_region, ↓wr_cons, ↓wr_consgL, ↓wr_nil, ↓wo_pickL, ↓wo_callf, ↓wc_exit, ↓wc_ret, ↓wc_skip, ↓wc_wl, wo_some, wo_none, wo_ite, opQ_eq, seqQ_normal, seqQ_exit, seqQ_ret, blockQ_normal, blockQ_exit, blockQ_ret, iterQ_normal, iterQ_exit, iterQ_ret, retQ_normal, retQ_ret, retQ_exit, pickC_true, pickC_false, pickO_true, pickO_false, gstep_tt, gstep_ff, gstep_tf, gstep_ft, gstep_skip, int_bne, int_beq, decide_not, Nat.reduceAdd, Nat.reduceMul, Nat.reduceSub, Nat.reducePow, Nat.reduceLT, Nat.reduceLeDiff, Nat.reduceEqDiff, Int.reduceToNat, Int.reduceAdd, Int.reduceSub, Int.reduceNeg, Int.reduceMul, Int.reduceLT, Int.reduceLE, Int.reduceEq, le_max, ↓wo_build, ↓wo_buildSlice, evParts, ↓reduceIte, planIds, hasExt, cntFs, idxFs, clnFs, ovlFs, List.contains_cons, List.contains_nil, List.any_cons, List.any_nil, Nat.reduceBEq, setC, List.length_set, decide_eq_true_eq, decide_eq_false_iff_not, true_implies, false_implies, forall_const, reduceCtorEq, eq_self, Int.natCast_nonneg, Int.toNat_natCast, Int.ofNat_lt, D.int.injEq, Option.some.injEq, Nat.zero_add, Nat.add_zero, bne_iff_ne, bne_eq_false_iff_eq, beq_iff_eq, beq_eq_false_iff_ne, gt_iff_lt, ne_eq, not_true_eq_false, not_false_eq_true, planIds, hasExt, cntFs, idxFs, clnFs, ovlFs, List.contains_cons, List.contains_nil, List.any_cons, List.any_nil, Nat.reduceBEq, Nat.reduceMul, Nat.reduceAdd, ↓reduceIte, hal, h0, h1, h2, h3, h9, h10, h11, List.length_map, Nat.lt_irrefl, Tryd.f14]
    exact ⟨hv.symm, hx⟩
theorem ref_Minutes_c {n : Nat} {l : List Cnn} {x : Bool} {p q r : ByteArray} (hl : l.length ≤ 1000) (hn : l.length + 31 ≤ n) (st : Bool) (S : List Ob) :
    callD E (dcall E n) st S 14 [.sl 4 (l.map Cnn.enc) x, .str p, .str q, .str r] = some (.int .i64 (minL p q r l), S) := by
  obtain ⟨m, rfl⟩ : ∃ m, n = m + 1 := ⟨n - 1, by omega⟩
  obtain ⟨d, T, ho, rfl, -⟩ := ref_Minutes_d (n := m) (x := x) (p := p) (q := q) (r := r) (S := []) hl (by omega)
  exact callD_pure rfl (by simp [pureL_cons, pureL_nil, D.pure, cnn_pure]) ho rfl
/-- Does a segment connect to another one? -/
def fitB (l : List Cnn) (a b : Sgm) : Bool :=
  (a.t.toList == b.f.toList) && decide (minL a.t a.c b.c l ≤ b.dep - a.arr) && decide (b.dep - a.arr ≤ 1440)
def Near (s : Sgm) : Prop := -1099511627776 ≤ s.dep ∧ s.dep ≤ 1099511627776 ∧ -1099511627776 ≤ s.arr ∧ s.arr ≤ 1099511627776
end Go.Proofs.YtgomkmamgflbeaaDoor.Dm
