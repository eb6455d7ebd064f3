/-
  The machine at the reference's journeys: what is visited, which comes first.
  The machine at the reference's journeys: one is put in order, all are continued.
  The machine at the reference's journeys: all are continued.
  The machine at the reference's journeys: all are continued by one segment.
  Journeys found level by level are the journeys found in depth; one put in order keeps the order.
  The machine at the reference's search of journeys.
  The machine at the comparison of journeys, and at ConnectPaths.
  The machine at ConnectPaths.
-/
import Derived.Test.YtgomkmamgflbeaaDoorPaE
import Derived.Test.YtgomkmamgflbeaaDoorPfA
namespace Go.Proofs.YtgomkmamgflbeaaDoor.Dm
open Go Gw
set_option linter.unusedSimpArgs false

/-- A journey, wherever it lies. -/
def PQ (S : List Ob) (d : D) (p : List Nat) : Prop := d = .sl 1 (p.map fun a => [intV a]) true ∨ ∃ k, d = .os k 0 p.length false ∧ S[k]? = some (.row 1 (p.map fun a => [intV a]))
theorem PQ.ext {S T : List Ob} {d : D} {p : List Nat} (h : PQ S d p) (g : ExtS S T) : PQ T d p := by
  rcases h with h | ⟨k, h1, h2⟩
  · exact .inl h
  · exact .inr ⟨k, h1, g k _ h2⟩
theorem PQ.pure {S : List Ob} {d : D} {p : List Nat} (h : PQ S d p) (hp : d.pure = true) : PQ [] d p := by
  rcases h with h | ⟨k, rfl, h2⟩
  · exact .inl h
  · simp [D.pure] at hp
def visB (fr : ByteArray) (segs : List Sgm) (p : List Nat) (t : ByteArray) : Bool := (p.any fun i => (tAt segs i).toList == t.toList) || (fr.toList == t.toList)
set_option maxHeartbeats 4000000 in
set_option maxRecDepth 100000 in
theorem visits_d {n : Nat} {d : D} {p : List Nat} {segs : List Sgm} {y : Bool} {fr t : ByteArray} {S : List Ob} (h : PQ S d p) (hj : ∀ j ∈ p, j < segs.length) (hl : p.length ≤ 1000) (hn : p.length < n) :
    WO (dcall E (n + 1) 71 [.sl 7 (segs.map Sgm.enc) y, .str fr, d, .str t] S) fun r T => r = .bool (visB fr segs p t) ∧ T = S := by
  refine wo_dcall Tryd.func71 rfl (by decide) rfl 29 rfl (fun a hal ha => ?_)
  have h0 : a[0]? = some (.sl 7 (segs.map Sgm.enc) y) := ha 0 (by simp)
  have h1 : a[1]? = some (.str fr) := ha 1 (by simp)
  have h2 : a[2]? = some (d) := ha 2 (by simp)
  have h3 : a[3]? = some (.str t) := ha 3 (by simp)
  clear ha
  obtain ⟨v, hv0⟩ : ∃ v, visB fr segs p t = v := ⟨_, rfl⟩
  have sge : ∀ s : Sgm, s.enc = [.str s.c, .int .i64 s.n, .int .i64 s.d, .str s.f, .str s.t, .int .i64 s.dep, .int .i64 s.arr] := fun _ => rfl
  rw [hv0]
  simp (maxSteps := 1000000) (disch := omega) only [push_cast, ↓wc_seq, ↓wc_block, ↓wc_scope, ↓wc_condL, ↓wc_region, ↓wr_cons, ↓wr_consgL, ↓wr_nil, ↓wo_pickL, ↓wo_callf, ↓wc_exit, ↓wc_ret, ↓wc_skip, ↓wc_wl, wo_some, wo_none, wo_ite, opQ_eq, seqQ_normal, seqQ_exit, seqQ_ret, blockQ_normal, blockQ_exit, blockQ_ret, iterQ_normal, iterQ_exit, iterQ_ret, retQ_normal, retQ_ret, retQ_exit, pickC_true, pickC_false, pickO_true, pickO_false, gstep_tt, gstep_ff, gstep_tf, gstep_ft, gstep_skip, int_bne, int_beq, decide_not, Nat.reduceAdd, Nat.reduceMul, Nat.reduceSub, Nat.reducePow, Nat.reduceLT, Nat.reduceLeDiff, Nat.reduceEqDiff, Int.reduceToNat, Int.reduceAdd, Int.reduceSub, Int.reduceNeg, Int.reduceMul, Int.reduceLT, Int.reduceLE, Int.reduceEq, le_max, ↓wo_build, ↓wo_buildSlice, evParts, ↓reduceIte, planIds, hasExt, cntFs, idxFs, clnFs, ovlFs, List.contains_cons, List.contains_nil, List.any_cons, List.any_nil, Nat.reduceBEq, setC, List.length_set, decide_eq_true_eq, decide_eq_false_iff_not, true_implies, false_implies, forall_const, reduceCtorEq, eq_self, Int.natCast_nonneg, Int.toNat_natCast, Int.ofNat_lt, D.int.injEq, Option.some.injEq, Nat.zero_add, Nat.add_zero, bne_iff_ne, bne_eq_false_iff_eq, beq_iff_eq, beq_eq_false_iff_ne, gt_iff_lt, ne_eq, not_true_eq_false, not_false_eq_true, planIds, hasExt, cntFs, idxFs, clnFs, ovlFs, List.contains_cons, List.contains_nil, List.any_cons, List.any_nil, Nat.reduceBEq, Nat.reduceMul, Nat.reduceAdd, ↓reduceIte, hal, h0, h1, h2, h3]
  refine wl_loop (fun i a T => T = S ∧ a.length = 29 ∧ a[0]? = some (.sl 7 (segs.map Sgm.enc) y) ∧ a[1]? = some (.str fr) ∧ a[2]? = some (d) ∧ a[3]? = some (.str t) ∧ a[9]? = some (.int .i64 i) ∧ visB fr segs (p.drop i) t = v) p.length ?_ (by omega) ?_
  · simp (maxSteps := 1000000) (disch := omega) only [push_cast, ↓wc_seq, ↓wc_block, ↓wc_scope, ↓wc_condL, ↓wc_region, ↓wr_cons, ↓wr_consgL, ↓wr_nil, ↓wo_pickL, ↓wo_callf, ↓wc_exit, ↓wc_ret, ↓wc_skip, ↓wc_wl, wo_some, wo_none, wo_ite, opQ_eq, seqQ_normal, seqQ_exit, seqQ_ret, blockQ_normal, blockQ_exit, blockQ_ret, iterQ_normal, iterQ_exit, iterQ_ret, retQ_normal, retQ_ret, retQ_exit, pickC_true, pickC_false, pickO_true, pickO_false, gstep_tt, gstep_ff, gstep_tf, gstep_ft, gstep_skip, int_bne, int_beq, decide_not, Nat.reduceAdd, Nat.reduceMul, Nat.reduceSub, Nat.reducePow, Nat.reduceLT, Nat.reduceLeDiff, Nat.reduceEqDiff, Int.reduceToNat, Int.reduceAdd, Int.reduceSub, Int.reduceNeg, Int.reduceMul, Int.reduceLT, Int.reduceLE, Int.reduceEq, le_max, ↓wo_build, ↓wo_buildSlice, evParts, ↓reduceIte, planIds, hasExt, cntFs, idxFs, clnFs, ovlFs, List.contains_cons, List.contains_nil, List.any_cons, List.any_nil, Nat.reduceBEq, setC, List.length_set, decide_eq_true_eq, decide_eq_false_iff_not, true_implies, false_implies, forall_const, reduceCtorEq, eq_self, Int.natCast_nonneg, Int.toNat_natCast, Int.ofNat_lt, D.int.injEq, Option.some.injEq, Nat.zero_add, Nat.add_zero, bne_iff_ne, bne_eq_false_iff_eq, beq_iff_eq, beq_eq_false_iff_ne, gt_iff_lt, ne_eq, not_true_eq_false, not_false_eq_true, planIds, hasExt, cntFs, idxFs, clnFs, ovlFs, List.contains_cons, List.contains_nil, List.any_cons, List.any_nil, Nat.reduceBEq, Nat.reduceMul, Nat.reduceAdd, ↓reduceIte, hal, h0, h1, h2, h3, Int.natCast_zero, List.drop_zero]
    exact hv0
  clear hal h0 h1 h2 h3 a
  rintro i a T hi ⟨rfl, hal, h0, h1, h2, h3, h9, hv⟩
  rcases Nat.lt_or_eq_of_le hi with hlt | rfl
  case inr =>
    rw [List.drop_length] at hv
    simp only [visB, List.any_nil, Bool.false_or] at hv
    rcases h with rfl | ⟨k, rfl, hk⟩
    · simp (maxSteps := 1000000) (disch := omega) only [push_cast, ↓wc_seq, ↓wc_block, ↓wc_scope, ↓wc_condL, ↓wc_region, ↓wr_cons, ↓wr_consgL, ↓wr_nil, ↓wo_pickL, ↓wo_callf, ↓wc_exit, ↓wc_ret, ↓wc_skip, ↓wc_wl, wo_some, wo_none, wo_ite, opQ_eq, seqQ_normal, seqQ_exit, seqQ_ret, blockQ_normal, blockQ_exit, blockQ_ret, iterQ_normal, iterQ_exit, iterQ_ret, retQ_normal, retQ_ret, retQ_exit, pickC_true, pickC_false, pickO_true, pickO_false, gstep_tt, gstep_ff, gstep_tf, gstep_ft, gstep_skip, int_bne, int_beq, decide_not, Nat.reduceAdd, Nat.reduceMul, Nat.reduceSub, Nat.reducePow, Nat.reduceLT, Nat.reduceLeDiff, Nat.reduceEqDiff, Int.reduceToNat, Int.reduceAdd, Int.reduceSub, Int.reduceNeg, Int.reduceMul, Int.reduceLT, Int.reduceLE, Int.reduceEq, le_max, ↓wo_build, ↓wo_buildSlice, evParts, ↓reduceIte, planIds, hasExt, cntFs, idxFs, clnFs, ovlFs, List.contains_cons, List.contains_nil, List.any_cons, List.any_nil, Nat.reduceBEq, setC, List.length_set, decide_eq_true_eq, decide_eq_false_iff_not, true_implies, false_implies, forall_const, reduceCtorEq, eq_self, Int.natCast_nonneg, Int.toNat_natCast, Int.ofNat_lt, D.int.injEq, Option.some.injEq, Nat.zero_add, Nat.add_zero, bne_iff_ne, bne_eq_false_iff_eq, beq_iff_eq, beq_eq_false_iff_ne, gt_iff_lt, ne_eq, not_true_eq_false, not_false_eq_true, planIds, hasExt, cntFs, idxFs, clnFs, ovlFs, List.contains_cons, List.contains_nil, List.any_cons, List.any_nil, Nat.reduceBEq, Nat.reduceMul, Nat.reduceAdd, ↓reduceIte, hal, h0, h1, h2, h3, h9, List.length_map, Nat.lt_irrefl, hv, Tryd.f71]
    · simp (maxSteps := 1000000) (disch := omega) only [push_cast, ↓wc_seq, ↓wc_block, ↓wc_scope, ↓wc_condL, ↓wc_region, ↓wr_cons, ↓wr_consgL, ↓wr_nil, ↓wo_pickL, ↓wo_callf, ↓wc_exit, ↓wc_ret, ↓wc_skip, ↓wc_wl, wo_some, wo_none, wo_ite, opQ_eq, seqQ_normal, seqQ_exit, seqQ_ret, blockQ_normal, blockQ_exit, blockQ_ret, iterQ_normal, iterQ_exit, iterQ_ret, retQ_normal, retQ_ret, retQ_exit, pickC_true, pickC_false, pickO_true, pickO_false, gstep_tt, gstep_ff, gstep_tf, gstep_ft, gstep_skip, int_bne, int_beq, decide_not, Nat.reduceAdd, Nat.reduceMul, Nat.reduceSub, Nat.reducePow, Nat.reduceLT, Nat.reduceLeDiff, Nat.reduceEqDiff, Int.reduceToNat, Int.reduceAdd, Int.reduceSub, Int.reduceNeg, Int.reduceMul, Int.reduceLT, Int.reduceLE, Int.reduceEq, le_max, ↓wo_build, ↓wo_buildSlice, evParts, ↓reduceIte, planIds, hasExt, cntFs, idxFs, clnFs, ovlFs, List.contains_cons, List.contains_nil, List.any_cons, List.any_nil, Nat.reduceBEq, setC, List.length_set, decide_eq_true_eq, decide_eq_false_iff_not, true_implies, false_implies, forall_const, reduceCtorEq, eq_self, Int.natCast_nonneg, Int.toNat_natCast, Int.ofNat_lt, D.int.injEq, Option.some.injEq, Nat.zero_add, Nat.add_zero, bne_iff_ne, bne_eq_false_iff_eq, beq_iff_eq, beq_eq_false_iff_ne, gt_iff_lt, ne_eq, not_true_eq_false, not_false_eq_true, planIds, hasExt, cntFs, idxFs, clnFs, ovlFs, List.contains_cons, List.contains_nil, List.any_cons, List.any_nil, Nat.reduceBEq, Nat.reduceMul, Nat.reduceAdd, ↓reduceIte, hal, h0, h1, h2, h3, h9, Nat.lt_irrefl, hv, Tryd.f71]
  obtain ⟨j, hu⟩ : ∃ u, p[i]? = some u := ⟨p[i], by simp⟩
  rw [drop_at hu] at hv
  have hw : IntKind.i64.wrap ((i : Int) + 1) = (i : Int) + 1 := wrap_ok (by omega) (by omega)
  have hjl := hj j (List.mem_of_getElem? hu)
  obtain ⟨s, hs⟩ : ∃ s, segs[j]? = some s := ⟨segs[j], by simp⟩
  have ht : tAt segs j = s.t := by unfold tAt; rw [hs]
  simp only [visB, List.any_cons, ht] at hv
  cases e : (s.t.toList == t.toList)
  · rw [e, Bool.false_or] at hv
    rcases h with rfl | ⟨k, rfl, hk⟩
    · simp (maxSteps := 1000000) (disch := omega) only [push_cast, ↓wc_seq, ↓wc_block, ↓wc_scope, ↓wc_condL, ↓wc_region, ↓wr_cons, ↓wr_consgL, ↓wr_nil, ↓wo_pickL, ↓wo_callf, ↓wc_exit, ↓wc_ret, ↓wc_skip, ↓wc_wl, wo_some, wo_none, wo_ite, opQ_eq, seqQ_normal, seqQ_exit, seqQ_ret, blockQ_normal, blockQ_exit, blockQ_ret, iterQ_normal, iterQ_exit, iterQ_ret, retQ_normal, retQ_ret, retQ_exit, pickC_true, pickC_false, pickO_true, pickO_false, gstep_tt, gstep_ff, gstep_tf, gstep_ft, gstep_skip, int_bne, int_beq, decide_not, Nat.reduceAdd, Nat.reduceMul, Nat.reduceSub, Nat.reducePow, Nat.reduceLT, Nat.reduceLeDiff, Nat.reduceEqDiff, Int.reduceToNat, Int.reduceAdd, Int.reduceSub, Int.reduceNeg, Int.reduceMul, Int.reduceLT, Int.reduceLE, Int.reduceEq, le_max, ↓wo_build, ↓wo_buildSlice, evParts, ↓reduceIte, planIds, hasExt, cntFs, idxFs, clnFs, ovlFs, List.contains_cons, List.contains_nil, List.any_cons, List.any_nil, Nat.reduceBEq, setC, List.length_set, decide_eq_true_eq, decide_eq_false_iff_not, true_implies, false_implies, forall_const, reduceCtorEq, eq_self, Int.natCast_nonneg, Int.toNat_natCast, Int.ofNat_lt, D.int.injEq, Option.some.injEq, Nat.zero_add, Nat.add_zero, bne_iff_ne, bne_eq_false_iff_eq, beq_iff_eq, beq_eq_false_iff_ne, gt_iff_lt, ne_eq, not_true_eq_false, not_false_eq_true, planIds, hasExt, cntFs, idxFs, clnFs, ovlFs, List.contains_cons, List.contains_nil, List.any_cons, List.any_nil, Nat.reduceBEq, Nat.reduceMul, Nat.reduceAdd, ↓reduceIte, hal, h0, h1, h2, h3, h9, hlt, List.length_map, List.getElem?_map, hu, hjl, hs, sge, e, hw, Int.natCast_add, Int.natCast_one]
      exact hv
    · simp (maxSteps := 1000000) (disch := omega) only [push_cast, ↓wc_seq, ↓wc_block, ↓wc_scope, ↓wc_condL, ↓wc_region, ↓wr_cons, ↓wr_consgL, ↓wr_nil, ↓wo_pickL, ↓wo_callf, ↓wc_exit, ↓wc_ret, ↓wc_skip, ↓wc_wl, wo_some, wo_none, wo_ite, opQ_eq, seqQ_normal, seqQ_exit, seqQ_ret, blockQ_normal, blockQ_exit, blockQ_ret, iterQ_normal, iterQ_exit, iterQ_ret, retQ_normal, retQ_ret, retQ_exit, pickC_true, pickC_false, pickO_true, pickO_false, gstep_tt, gstep_ff, gstep_tf, gstep_ft, gstep_skip, int_bne, int_beq, decide_not, Nat.reduceAdd, Nat.reduceMul, Nat.reduceSub, Nat.reducePow, Nat.reduceLT, Nat.reduceLeDiff, Nat.reduceEqDiff, Int.reduceToNat, Int.reduceAdd, Int.reduceSub, Int.reduceNeg, Int.reduceMul, Int.reduceLT, Int.reduceLE, Int.reduceEq, le_max, ↓wo_build, ↓wo_buildSlice, evParts, ↓reduceIte, planIds, hasExt, cntFs, idxFs, clnFs, ovlFs, List.contains_cons, List.contains_nil, List.any_cons, List.any_nil, Nat.reduceBEq, setC, List.length_set, decide_eq_true_eq, decide_eq_false_iff_not, true_implies, false_implies, forall_const, reduceCtorEq, eq_self, Int.natCast_nonneg, Int.toNat_natCast, Int.ofNat_lt, D.int.injEq, Option.some.injEq, Nat.zero_add, Nat.add_zero, bne_iff_ne, bne_eq_false_iff_eq, beq_iff_eq, beq_eq_false_iff_ne, gt_iff_lt, ne_eq, not_true_eq_false, not_false_eq_true, planIds, hasExt, cntFs, idxFs, clnFs, ovlFs, List.contains_cons, List.contains_nil, List.any_cons, List.any_nil, Nat.reduceBEq, Nat.reduceMul, Nat.reduceAdd, ↓reduceIte, hal, h0, h1, h2, h3, h9, hlt, hk, List.length_map, List.getElem?_map, hu, hjl, hs, sge, e, hw, Int.natCast_add, Int.natCast_one]
      exact hv
  · rw [e, Bool.true_or, Bool.true_or] at hv
    subst hv
    rcases h with rfl | ⟨k, rfl, hk⟩
    · simp (maxSteps := 1000000) (disch := omega) only [push_cast, ↓wc_seq, ↓wc_block, ↓wc_scope, ↓wc_condL, ↓wc_region, ↓wr_cons, ↓wr_consgL, ↓wr_nil, ↓wo_pickL, ↓wo_callf, ↓wc_exit, ↓wc_ret, ↓wc_skip, ↓wc_wl, wo_some, wo_none, wo_ite, opQ_eq, seqQ_normal, seqQ_exit, seqQ_ret, blockQ_normal, blockQ_exit, blockQ_ret, iterQ_normal, iterQ_exit, iterQ_ret, retQ_normal, retQ_ret, retQ_exit, pickC_true, pickC_false, pickO_true, pickO_false, gstep_tt, gstep_ff, gstep_tf, gstep_ft, gstep_skip, int_bne, int_beq, decide_not, Nat.reduceAdd, Nat.reduceMul, Nat.reduceSub, Nat.reducePow, Nat.reduceLT, Nat.reduceLeDiff, Nat.reduceEqDiff, Int.reduceToNat, Int.reduceAdd, Int.reduceSub, Int.reduceNeg, Int.reduceMul, Int.reduceLT, Int.reduceLE, Int.reduceEq, le_max, ↓wo_build, ↓wo_buildSlice, evParts, ↓reduceIte, planIds, hasExt, cntFs, idxFs, clnFs, ovlFs, List.contains_cons, List.contains_nil, List.any_cons, List.any_nil, Nat.reduceBEq, setC, List.length_set, decide_eq_true_eq, decide_eq_false_iff_not, true_implies, false_implies, forall_const, reduceCtorEq, eq_self, Int.natCast_nonneg, Int.toNat_natCast, Int.ofNat_lt, D.int.injEq, Option.some.injEq, Nat.zero_add, Nat.add_zero, bne_iff_ne, bne_eq_false_iff_eq, beq_iff_eq, beq_eq_false_iff_ne, gt_iff_lt, ne_eq, not_true_eq_false, not_false_eq_true, planIds, hasExt, cntFs, idxFs, clnFs, ovlFs, List.contains_cons, List.contains_nil, List.any_cons, List.any_nil, Nat.reduceBEq, Nat.reduceMul, Nat.reduceAdd, ↓reduceIte, hal, h0, h1, h2, h3, h9, hlt, List.length_map, List.getElem?_map, hu, hjl, hs, sge, e, Tryd.f71]
    · simp (maxSteps := 1000000) (disch := omega) only [push_cast, ↓wc_seq, ↓wc_block, ↓wc_scope, ↓wc_condL, ↓wc_region, ↓wr_cons, ↓wr_consgL, ↓wr_nil, ↓wo_pickL, ↓wo_callf, ↓wc_exit, ↓wc_ret, ↓wc_skip, ↓wc_wl, wo_some, wo_none, wo_ite, opQ_eq, seqQ_normal, seqQ_exit, seqQ_ret, blockQ_normal, blockQ_exit, blockQ_ret, iterQ_normal, iterQ_exit, iterQ_ret, retQ_normal, retQ_ret, retQ_exit, pickC_true, pickC_false, pickO_true, pickO_false, gstep_tt, gstep_ff, gstep_tf, gstep_ft, gstep_skip, int_bne, int_beq, decide_not, Nat.reduceAdd, Nat.reduceMul, Nat.reduceSub, Nat.reducePow, Nat.reduceLT, Nat.reduceLeDiff, Nat.reduceEqDiff, Int.reduceToNat, Int.reduceAdd, Int.reduceSub, Int.reduceNeg, Int.reduceMul, Int.reduceLT, Int.reduceLE, Int.reduceEq, le_max, ↓wo_build, ↓wo_buildSlice, evParts, ↓reduceIte, planIds, hasExt, cntFs, idxFs, clnFs, ovlFs, List.contains_cons, List.contains_nil, List.any_cons, List.any_nil, Nat.reduceBEq, setC, List.length_set, decide_eq_true_eq, decide_eq_false_iff_not, true_implies, false_implies, forall_const, reduceCtorEq, eq_self, Int.natCast_nonneg, Int.toNat_natCast, Int.ofNat_lt, D.int.injEq, Option.some.injEq, Nat.zero_add, Nat.add_zero, bne_iff_ne, bne_eq_false_iff_eq, beq_iff_eq, beq_eq_false_iff_ne, gt_iff_lt, ne_eq, not_true_eq_false, not_false_eq_true, planIds, hasExt, cntFs, idxFs, clnFs, ovlFs, List.contains_cons, List.contains_nil, List.any_cons, List.any_nil, Nat.reduceBEq, Nat.reduceMul, Nat.reduceAdd, ↓reduceIte, hal, h0, h1, h2, h3, h9, hlt, hk, List.length_map, List.getElem?_map, hu, hjl, hs, sge, e, Tryd.f71]
theorem visits_c {n : Nat} {d : D} {p : List Nat} {segs : List Sgm} {y : Bool} {fr t : ByteArray} {S : List Ob} (h : PQ S d p) (hj : ∀ j ∈ p, j < segs.length) (hl : p.length ≤ 1000) (hn : p.length + 1 < n) (st : Bool) :
    callD E (dcall E n) st S 71 [.sl 7 (segs.map Sgm.enc) y, .str fr, d, .str t] = some (.bool (visB fr segs p t), S) := by
  obtain ⟨m, rfl⟩ : ∃ m, n = m + 1 := ⟨n - 1, by omega⟩
  by_cases hp : pureL [.sl 7 (segs.map Sgm.enc) y, .str fr, d, .str t] = true
  · have hd : d.pure = true := by
      simp only [pureL_cons, pureL_nil, Bool.and_eq_true] at hp
      exact hp.2.2.1
    obtain ⟨_, T, ho, rfl, rfl⟩ := visits_d (n := m) (y := y) (fr := fr) (t := t) (h.pure hd) hj hl (by omega)
    exact callD_obsP rfl hp ho rfl
  · obtain ⟨_, T, ho, rfl, rfl⟩ := visits_d (n := m) (y := y) (fr := fr) (t := t) h hj hl (by omega)
    exact callD_obs rfl (by simpa using hp) ho rfl
theorem PQ.two {S : List Ob} {d : D} {p : List Nat} (h : PQ S d p) : (d = .sl 1 (p.map fun a => [intV a]) true ∧ True) ∨ ∃ k, d = .os k 0 p.length false ∧ S[k]? = some (.row 1 (p.map fun a => [intV a])) := by
  rcases h with h | h
  · exact .inl ⟨h, trivial⟩
  · exact .inr h
set_option maxHeartbeats 8000000 in
set_option maxRecDepth 100000 in
theorem ahead_d {n : Nat} {d e : D} {p q : List Nat} {segs : List Sgm} {y : Bool} {v : Bool} {S : List Ob} (hv : v = true ↔ ahd segs p q) (h : PQ S d p) (g : PQ S e q) (hj : ∀ j ∈ p, j < segs.length) (gj : ∀ j ∈ q, j < segs.length) (hl : p.length ≤ 1000) (gl : q.length ≤ 1000) (hp : p ≠ []) (hq : q ≠ []) (hn : p.length < n) :
    WO (dcall E (n + 1) 70 [.sl 7 (segs.map Sgm.enc) y, d, e] S) fun r T => r = .bool v ∧ T = S := by
  have sge : ∀ s : Sgm, s.enc = [.str s.c, .int .i64 s.n, .int .i64 s.d, .str s.f, .str s.t, .int .i64 s.dep, .int .i64 s.arr] := fun _ => rfl
  obtain ⟨p1, hp1⟩ : ∃ n1, p.length = n1 + 1 := ⟨p.length - 1, by have := List.length_pos_iff.2 hp; omega⟩
  obtain ⟨q1, hq1⟩ : ∃ n1, q.length = n1 + 1 := ⟨q.length - 1, by have := List.length_pos_iff.2 hq; omega⟩
  obtain ⟨i1, hi1⟩ : ∃ u, p[p1]? = some u := ⟨p[p1]'(by omega), by simp⟩
  obtain ⟨k1, hk1⟩ : ∃ u, q[q1]? = some u := ⟨q[q1]'(by omega), by simp⟩
  have hil := hj i1 (List.mem_of_getElem? hi1)
  have hkl := gj k1 (List.mem_of_getElem? hk1)
  obtain ⟨sa, hsa⟩ : ∃ s, segs[i1]? = some s := ⟨segs[i1], by simp⟩
  obtain ⟨sb, hsb⟩ : ∃ s, segs[k1]? = some s := ⟨segs[k1], by simp⟩
  have la : lastArr segs p = sa.arr := by
    unfold lastArr arrAt
    rw [hp1, Nat.add_sub_cancel, hi1]
    dsimp only
    rw [hsa]
  have lb : lastArr segs q = sb.arr := by
    unfold lastArr arrAt
    rw [hq1, Nat.add_sub_cancel, hk1]
    dsimp only
    rw [hsb]
  have wp : IntKind.i64.wrap ((p.length : Int) - 1) = (p1 : Int) := by rw [wrap_ok (by omega) (by omega)]; omega
  have wq : IntKind.i64.wrap ((q.length : Int) - 1) = (q1 : Int) := by rw [wrap_ok (by omega) (by omega)]; omega
  have hp1l : p1 < p.length := by omega
  have hq1l : q1 < q.length := by omega
  unfold ahd at hv
  rw [la, lb] at hv
  clear la lb hp1 hq1 hp hq
  refine wo_dcall Tryd.func70 rfl (by decide) rfl 70 rfl (fun a hal ha => ?_)
  have h0 : a[0]? = some (.sl 7 (segs.map Sgm.enc) y) := ha 0 (by simp)
  have h1 : a[1]? = some (d) := ha 1 (by simp)
  have h2 : a[2]? = some (e) := ha 2 (by simp)
  clear ha
  rw [wc_asc]
  refine wc_scut (fun a T => T = S ∧ a.length = 70 ∧ a[0]? = some (.sl 7 (segs.map Sgm.enc) y) ∧ a[1]? = some (d) ∧ a[2]? = some (e) ∧ a[7]? = some (.int .i64 sa.arr) ∧ a[8]? = some (.int .i64 sb.arr)) ?_ ?_
  · rcases h.two with ⟨rfl, hx⟩ | ⟨k, rfl, hx⟩ <;> rcases g.two with ⟨rfl, gx⟩ | ⟨k', rfl, gx⟩
    all_goals simp (maxSteps := 1000000) (disch := omega) only [push_cast, ↓wc_seq, ↓wc_block, ↓wc_scope, ↓wc_condL, ↓wc_region, ↓wr_cons, ↓wr_consgL, ↓wr_nil, ↓wo_pickL, ↓wo_callf, ↓wc_exit, ↓wc_ret, ↓wc_skip, ↓wc_wl, wo_some, wo_none, wo_ite, opQ_eq, seqQ_normal, seqQ_exit, seqQ_ret, blockQ_normal, blockQ_exit, blockQ_ret, iterQ_normal, iterQ_exit, iterQ_ret, retQ_normal, retQ_ret, retQ_exit, pickC_true, pickC_false, pickO_true, pickO_false, gstep_tt, gstep_ff, gstep_tf, gstep_ft, gstep_skip, int_bne, int_beq, decide_not, Nat.reduceAdd, Nat.reduceMul, Nat.reduceSub, Nat.reducePow, Nat.reduceLT, Nat.reduceLeDiff, Nat.reduceEqDiff, Int.reduceToNat, Int.reduceAdd, Int.reduceSub, Int.reduceNeg, Int.reduceMul, Int.reduceLT, Int.reduceLE, Int.reduceEq, le_max, ↓wo_build, ↓wo_buildSlice, evParts, ↓reduceIte, planIds, hasExt, cntFs, idxFs, clnFs, ovlFs, List.contains_cons, List.contains_nil, List.any_cons, List.any_nil, Nat.reduceBEq, setC, List.length_set, decide_eq_true_eq, decide_eq_false_iff_not, true_implies, false_implies, forall_const, reduceCtorEq, eq_self, Int.natCast_nonneg, Int.toNat_natCast, Int.ofNat_lt, D.int.injEq, Option.some.injEq, Nat.zero_add, Nat.add_zero, bne_iff_ne, bne_eq_false_iff_eq, beq_iff_eq, beq_eq_false_iff_ne, gt_iff_lt, ne_eq, not_true_eq_false, not_false_eq_true, planIds, hasExt, cntFs, idxFs, clnFs, ovlFs, List.contains_cons, List.contains_nil, List.any_cons, List.any_nil, Nat.reduceBEq, Nat.reduceMul, Nat.reduceAdd, ↓reduceIte, hal, h0, h1, h2, List.length_map, List.getElem?_map, hx, gx, hil, hkl, hi1, hk1, hsa, hsb, hp1l, hq1l, wp, wq, sge]
  clear hal h0 h1 h2 a
  rintro a T ⟨rfl, hal, h0, h1, h2, h7, h8⟩
  clear hsa hsb hi1 hk1 hil hkl hp1l hq1l wp wq
  obtain ⟨xa, hxa⟩ : ∃ xa, xa = sa.arr := ⟨_, rfl⟩
  obtain ⟨xb, hxb⟩ : ∃ xb, xb = sb.arr := ⟨_, rfl⟩
  rw [← hxa] at h7 hv
  rw [← hxb] at h8 hv
  clear hxa hxb
  have yes : ∀ {P : Prop}, (v = true ↔ P) → P → v = true := fun a b => a.2 b
  have no : ∀ {P : Prop}, (v = true ↔ P) → ¬ P → v = false := fun a b => Bool.eq_false_iff.2 fun h => b (a.1 h)
  by_cases e1 : xa = xb
  case neg =>
    by_cases e2 : xa < xb
    · obtain rfl := yes hv (.inl e2)
      simp (maxSteps := 1000000) (disch := omega) only [push_cast, ↓wc_seq, ↓wc_block, ↓wc_scope, ↓wc_condL, ↓wc_region, ↓wr_cons, ↓wr_consgL, ↓wr_nil, ↓wo_pickL, ↓wo_callf, ↓wc_exit, ↓wc_ret, ↓wc_skip, ↓wc_wl, wo_some, wo_none, wo_ite, opQ_eq, seqQ_normal, seqQ_exit, seqQ_ret, blockQ_normal, blockQ_exit, blockQ_ret, iterQ_normal, iterQ_exit, iterQ_ret, retQ_normal, retQ_ret, retQ_exit, pickC_true, pickC_false, pickO_true, pickO_false, gstep_tt, gstep_ff, gstep_tf, gstep_ft, gstep_skip, int_bne, int_beq, decide_not, Nat.reduceAdd, Nat.reduceMul, Nat.reduceSub, Nat.reducePow, Nat.reduceLT, Nat.reduceLeDiff, Nat.reduceEqDiff, Int.reduceToNat, Int.reduceAdd, Int.reduceSub, Int.reduceNeg, Int.reduceMul, Int.reduceLT, Int.reduceLE, Int.reduceEq, le_max, ↓wo_build, ↓wo_buildSlice, evParts, ↓reduceIte, planIds, hasExt, cntFs, idxFs, clnFs, ovlFs, List.contains_cons, List.contains_nil, List.any_cons, List.any_nil, Nat.reduceBEq, setC, List.length_set, decide_eq_true_eq, decide_eq_false_iff_not, true_implies, false_implies, forall_const, reduceCtorEq, eq_self, Int.natCast_nonneg, Int.toNat_natCast, Int.ofNat_lt, D.int.injEq, Option.some.injEq, Nat.zero_add, Nat.add_zero, bne_iff_ne, bne_eq_false_iff_eq, beq_iff_eq, beq_eq_false_iff_ne, gt_iff_lt, ne_eq, not_true_eq_false, not_false_eq_true, planIds, hasExt, cntFs, idxFs, clnFs, ovlFs, List.contains_cons, List.contains_nil, List.any_cons, List.any_nil, Nat.reduceBEq, Nat.reduceMul, Nat.reduceAdd, ↓reduceIte, hal, h0, h1, h2, h7, h8, e1, e2, Tryd.f70]
    · obtain rfl := no hv (fun h => by rcases h with h | ⟨h, -⟩ <;> contradiction)
      simp (maxSteps := 1000000) (disch := omega) only [push_cast, ↓wc_seq, ↓wc_block, ↓wc_scope, ↓wc_condL, ↓wc_region, ↓wr_cons, ↓wr_consgL, ↓wr_nil, ↓wo_pickL, ↓wo_callf, ↓wc_exit, ↓wc_ret, ↓wc_skip, ↓wc_wl, wo_some, wo_none, wo_ite, opQ_eq, seqQ_normal, seqQ_exit, seqQ_ret, blockQ_normal, blockQ_exit, blockQ_ret, iterQ_normal, iterQ_exit, iterQ_ret, retQ_normal, retQ_ret, retQ_exit, pickC_true, pickC_false, pickO_true, pickO_false, gstep_tt, gstep_ff, gstep_tf, gstep_ft, gstep_skip, int_bne, int_beq, decide_not, Nat.reduceAdd, Nat.reduceMul, Nat.reduceSub, Nat.reducePow, Nat.reduceLT, Nat.reduceLeDiff, Nat.reduceEqDiff, Int.reduceToNat, Int.reduceAdd, Int.reduceSub, Int.reduceNeg, Int.reduceMul, Int.reduceLT, Int.reduceLE, Int.reduceEq, le_max, ↓wo_build, ↓wo_buildSlice, evParts, ↓reduceIte, planIds, hasExt, cntFs, idxFs, clnFs, ovlFs, List.contains_cons, List.contains_nil, List.any_cons, List.any_nil, Nat.reduceBEq, setC, List.length_set, decide_eq_true_eq, decide_eq_false_iff_not, true_implies, false_implies, forall_const, reduceCtorEq, eq_self, Int.natCast_nonneg, Int.toNat_natCast, Int.ofNat_lt, D.int.injEq, Option.some.injEq, Nat.zero_add, Nat.add_zero, bne_iff_ne, bne_eq_false_iff_eq, beq_iff_eq, beq_eq_false_iff_ne, gt_iff_lt, ne_eq, not_true_eq_false, not_false_eq_true, planIds, hasExt, cntFs, idxFs, clnFs, ovlFs, List.contains_cons, List.contains_nil, List.any_cons, List.any_nil, Nat.reduceBEq, Nat.reduceMul, Nat.reduceAdd, ↓reduceIte, hal, h0, h1, h2, h7, h8, e1, e2, Tryd.f70]
  subst e1
  have hv1 : v = true ↔ (p.length < q.length ∨ p.length = q.length ∧ p < q) := by
    rw [hv]
    exact ⟨fun h => by rcases h with h | ⟨-, h⟩; exact absurd h (Int.lt_irrefl _); exact h, fun h => .inr ⟨rfl, h⟩⟩
  clear hv
  by_cases e3 : p.length = q.length
  case neg =>
    have e3' : ¬ ((p.length : Int) = (q.length : Int)) := by omega
    by_cases e2 : p.length < q.length
    · obtain rfl := yes hv1 (.inl e2)
      rcases h.two with ⟨rfl, hx⟩ | ⟨k, rfl, hx⟩ <;> rcases g.two with ⟨rfl, gx⟩ | ⟨k', rfl, gx⟩
      all_goals simp (maxSteps := 1000000) (disch := omega) only [push_cast, ↓wc_seq, ↓wc_block, ↓wc_scope, ↓wc_condL, ↓wc_region, ↓wr_cons, ↓wr_consgL, ↓wr_nil, ↓wo_pickL, ↓wo_callf, ↓wc_exit, ↓wc_ret, ↓wc_skip, ↓wc_wl, wo_some, wo_none, wo_ite, opQ_eq, seqQ_normal, seqQ_exit, seqQ_ret, blockQ_normal, blockQ_exit, blockQ_ret, iterQ_normal, iterQ_exit, iterQ_ret, retQ_normal, retQ_ret, retQ_exit, pickC_true, pickC_false, pickO_true, pickO_false, gstep_tt, gstep_ff, gstep_tf, gstep_ft, gstep_skip, int_bne, int_beq, decide_not, Nat.reduceAdd, Nat.reduceMul, Nat.reduceSub, Nat.reducePow, Nat.reduceLT, Nat.reduceLeDiff, Nat.reduceEqDiff, Int.reduceToNat, Int.reduceAdd, Int.reduceSub, Int.reduceNeg, Int.reduceMul, Int.reduceLT, Int.reduceLE, Int.reduceEq, le_max, ↓wo_build, ↓wo_buildSlice, evParts, ↓reduceIte, planIds, hasExt, cntFs, idxFs, clnFs, ovlFs, List.contains_cons, List.contains_nil, List.any_cons, List.any_nil, Nat.reduceBEq, setC, List.length_set, decide_eq_true_eq, decide_eq_false_iff_not, true_implies, false_implies, forall_const, reduceCtorEq, eq_self, Int.natCast_nonneg, Int.toNat_natCast, Int.ofNat_lt, D.int.injEq, Option.some.injEq, Nat.zero_add, Nat.add_zero, bne_iff_ne, bne_eq_false_iff_eq, beq_iff_eq, beq_eq_false_iff_ne, gt_iff_lt, ne_eq, not_true_eq_false, not_false_eq_true, planIds, hasExt, cntFs, idxFs, clnFs, ovlFs, List.contains_cons, List.contains_nil, List.any_cons, List.any_nil, Nat.reduceBEq, Nat.reduceMul, Nat.reduceAdd, ↓reduceIte, hal, h0, h1, h2, h7, h8, List.length_map, e3', e2, Tryd.f70]
    · obtain rfl := no hv1 (fun h => by rcases h with h | ⟨h, -⟩ <;> contradiction)
      rcases h.two with ⟨rfl, hx⟩ | ⟨k, rfl, hx⟩ <;> rcases g.two with ⟨rfl, gx⟩ | ⟨k', rfl, gx⟩
      all_goals simp (maxSteps := 1000000) (disch := omega) only [push_cast, ↓wc_seq, ↓wc_block, ↓wc_scope, ↓wc_condL, ↓wc_region, ↓wr_cons, ↓wr_consgL, ↓wr_nil, ↓wo_pickL, ↓wo_callf, ↓wc_exit, ↓wc_ret, ↓wc_skip, ↓wc_wl, wo_some, wo_none, wo_ite, opQ_eq, seqQ_normal, seqQ_exit, seqQ_ret, blockQ_normal, blockQ_exit, blockQ_ret, iterQ_normal, iterQ_exit, iterQ_ret, retQ_normal, retQ_ret, retQ_exit, pickC_true, pickC_false, pickO_true, pickO_false, gstep_tt, gstep_ff, gstep_tf, gstep_ft, gstep_skip, int_bne, int_beq, decide_not, Nat.reduceAdd, Nat.reduceMul, Nat.reduceSub, Nat.reducePow, Nat.reduceLT, Nat.reduceLeDiff, Nat.reduceEqDiff, Int.reduceToNat, Int.reduceAdd, Int.reduceSub, Int.reduceNeg, Int.reduceMul, Int.reduceLT, Int.reduceLE, Int.reduceEq, le_max, ↓wo_build, ↓wo_buildSlice, evParts, ↓reduceIte, planIds, hasExt, cntFs, idxFs, clnFs, ovlFs, List.contains_cons, List.contains_nil, List.any_cons, List.any_nil, Nat.reduceBEq, setC, List.length_set, decide_eq_true_eq, decide_eq_false_iff_not, true_implies, false_implies, forall_const, reduceCtorEq, eq_self, Int.natCast_nonneg, Int.toNat_natCast, Int.ofNat_lt, D.int.injEq, Option.some.injEq, Nat.zero_add, Nat.add_zero, bne_iff_ne, bne_eq_false_iff_eq, beq_iff_eq, beq_eq_false_iff_ne, gt_iff_lt, ne_eq, not_true_eq_false, not_false_eq_true, planIds, hasExt, cntFs, idxFs, clnFs, ovlFs, List.contains_cons, List.contains_nil, List.any_cons, List.any_nil, Nat.reduceBEq, Nat.reduceMul, Nat.reduceAdd, ↓reduceIte, hal, h0, h1, h2, h7, h8, List.length_map, e3', e2, Tryd.f70]
  have hv2 : v = true ↔ p < q := by
    rw [hv1]
    exact ⟨fun h => by rcases h with h | ⟨-, h⟩; omega; exact h, fun h => .inr ⟨e3, h⟩⟩
  clear hv1
  rw [wc_asc]
  refine wc_scut (fun a T' => T' = T ∧ a.length = 70 ∧ a[0]? = some (.sl 7 (segs.map Sgm.enc) y) ∧ a[1]? = some (d) ∧ a[2]? = some (e)) ?_ ?_
  · have e3' : ((p.length : Int) = (q.length : Int)) = True := by rw [e3]; simp
    rcases h.two with ⟨rfl, hx⟩ | ⟨k, rfl, hx⟩ <;> rcases g.two with ⟨rfl, gx⟩ | ⟨k', rfl, gx⟩
    all_goals simp (maxSteps := 1000000) (disch := omega) only [push_cast, ↓wc_seq, ↓wc_block, ↓wc_scope, ↓wc_condL, ↓wc_region, ↓wr_cons, ↓wr_consgL, ↓wr_nil, ↓wo_pickL, ↓wo_callf, ↓wc_exit, ↓wc_ret, ↓wc_skip, ↓wc_wl, wo_some, wo_none, wo_ite, opQ_eq, seqQ_normal, seqQ_exit, seqQ_ret, blockQ_normal, blockQ_exit, blockQ_ret, iterQ_normal, iterQ_exit, iterQ_ret, retQ_normal, retQ_ret, retQ_exit, pickC_true, pickC_false, pickO_true, pickO_false, gstep_tt, gstep_ff, gstep_tf, gstep_ft, gstep_skip, int_bne, int_beq, decide_not, Nat.reduceAdd, Nat.reduceMul, Nat.reduceSub, Nat.reducePow, Nat.reduceLT, Nat.reduceLeDiff, Nat.reduceEqDiff, Int.reduceToNat, Int.reduceAdd, Int.reduceSub, Int.reduceNeg, Int.reduceMul, Int.reduceLT, Int.reduceLE, Int.reduceEq, le_max, ↓wo_build, ↓wo_buildSlice, evParts, ↓reduceIte, planIds, hasExt, cntFs, idxFs, clnFs, ovlFs, List.contains_cons, List.contains_nil, List.any_cons, List.any_nil, Nat.reduceBEq, setC, List.length_set, decide_eq_true_eq, decide_eq_false_iff_not, true_implies, false_implies, forall_const, reduceCtorEq, eq_self, Int.natCast_nonneg, Int.toNat_natCast, Int.ofNat_lt, D.int.injEq, Option.some.injEq, Nat.zero_add, Nat.add_zero, bne_iff_ne, bne_eq_false_iff_eq, beq_iff_eq, beq_eq_false_iff_ne, gt_iff_lt, ne_eq, not_true_eq_false, not_false_eq_true, planIds, hasExt, cntFs, idxFs, clnFs, ovlFs, List.contains_cons, List.contains_nil, List.any_cons, List.any_nil, Nat.reduceBEq, Nat.reduceMul, Nat.reduceAdd, ↓reduceIte, hal, h0, h1, h2, h7, h8, List.length_map, e3']
  clear hal h0 h1 h2 h7 h8 a
  rintro a T' ⟨rfl, hal, h0, h1, h2⟩
  simp (maxSteps := 1000000) (disch := omega) only [push_cast, ↓wc_seq, ↓wc_block, ↓wc_scope, ↓wc_condL, ↓wc_region, ↓wr_cons, ↓wr_consgL, ↓wr_nil, ↓wo_pickL, ↓wo_callf, ↓wc_exit, ↓wc_ret, ↓wc_skip, ↓wc_wl, wo_some, wo_none, wo_ite, opQ_eq, seqQ_normal, seqQ_exit, seqQ_ret, blockQ_normal, blockQ_exit, blockQ_ret, iterQ_normal, iterQ_exit, iterQ_ret, retQ_normal, retQ_ret, retQ_exit, pickC_true, pickC_false, pickO_true, pickO_false, gstep_tt, gstep_ff, gstep_tf, gstep_ft, gstep_skip, int_bne, int_beq, decide_not, Nat.reduceAdd, Nat.reduceMul, Nat.reduceSub, Nat.reducePow, Nat.reduceLT, Nat.reduceLeDiff, Nat.reduceEqDiff, Int.reduceToNat, Int.reduceAdd, Int.reduceSub, Int.reduceNeg, Int.reduceMul, Int.reduceLT, Int.reduceLE, Int.reduceEq, le_max, ↓wo_build, ↓wo_buildSlice, evParts, ↓reduceIte, planIds, hasExt, cntFs, idxFs, clnFs, ovlFs, List.contains_cons, List.contains_nil, List.any_cons, List.any_nil, Nat.reduceBEq, setC, List.length_set, decide_eq_true_eq, decide_eq_false_iff_not, true_implies, false_implies, forall_const, reduceCtorEq, eq_self, Int.natCast_nonneg, Int.toNat_natCast, Int.ofNat_lt, D.int.injEq, Option.some.injEq, Nat.zero_add, Nat.add_zero, bne_iff_ne, bne_eq_false_iff_eq, beq_iff_eq, beq_eq_false_iff_ne, gt_iff_lt, ne_eq, not_true_eq_false, not_false_eq_true, planIds, hasExt, cntFs, idxFs, clnFs, ovlFs, List.contains_cons, List.contains_nil, List.any_cons, List.any_nil, Nat.reduceBEq, Nat.reduceMul, Nat.reduceAdd, ↓reduceIte, hal, h0, h1, h2]
  refine wl_loop (fun i a T => T = T' ∧ a.length = 70 ∧ a[0]? = some (.sl 7 (segs.map Sgm.enc) y) ∧ a[1]? = some (d) ∧ a[2]? = some (e) ∧ a[9]? = some (.int .i64 i) ∧ (v = true ↔ p.drop i < q.drop i)) p.length ?_ (by omega) ?_
  · simp (maxSteps := 1000000) (disch := omega) only [push_cast, ↓wc_seq, ↓wc_block, ↓wc_scope, ↓wc_condL, ↓wc_region, ↓wr_cons, ↓wr_consgL, ↓wr_nil, ↓wo_pickL, ↓wo_callf, ↓wc_exit, ↓wc_ret, ↓wc_skip, ↓wc_wl, wo_some, wo_none, wo_ite, opQ_eq, seqQ_normal, seqQ_exit, seqQ_ret, blockQ_normal, blockQ_exit, blockQ_ret, iterQ_normal, iterQ_exit, iterQ_ret, retQ_normal, retQ_ret, retQ_exit, pickC_true, pickC_false, pickO_true, pickO_false, gstep_tt, gstep_ff, gstep_tf, gstep_ft, gstep_skip, int_bne, int_beq, decide_not, Nat.reduceAdd, Nat.reduceMul, Nat.reduceSub, Nat.reducePow, Nat.reduceLT, Nat.reduceLeDiff, Nat.reduceEqDiff, Int.reduceToNat, Int.reduceAdd, Int.reduceSub, Int.reduceNeg, Int.reduceMul, Int.reduceLT, Int.reduceLE, Int.reduceEq, le_max, ↓wo_build, ↓wo_buildSlice, evParts, ↓reduceIte, planIds, hasExt, cntFs, idxFs, clnFs, ovlFs, List.contains_cons, List.contains_nil, List.any_cons, List.any_nil, Nat.reduceBEq, setC, List.length_set, decide_eq_true_eq, decide_eq_false_iff_not, true_implies, false_implies, forall_const, reduceCtorEq, eq_self, Int.natCast_nonneg, Int.toNat_natCast, Int.ofNat_lt, D.int.injEq, Option.some.injEq, Nat.zero_add, Nat.add_zero, bne_iff_ne, bne_eq_false_iff_eq, beq_iff_eq, beq_eq_false_iff_ne, gt_iff_lt, ne_eq, not_true_eq_false, not_false_eq_true, planIds, hasExt, cntFs, idxFs, clnFs, ovlFs, List.contains_cons, List.contains_nil, List.any_cons, List.any_nil, Nat.reduceBEq, Nat.reduceMul, Nat.reduceAdd, ↓reduceIte, hal, h0, h1, h2, Int.natCast_zero, List.drop_zero]
    exact hv2
  clear hal h0 h1 h2 a
  clear hv2
  rintro i a T hi ⟨rfl, hal, h0, h1, h2, h9, hv⟩
  rcases Nat.lt_or_eq_of_le hi with hlt | rfl
  case inr =>
    rw [List.drop_length, e3, List.drop_length] at hv
    obtain rfl := no hv (List.lt_irrefl _)
    rcases h.two with ⟨rfl, hx⟩ | ⟨k, rfl, hx⟩
    all_goals simp (maxSteps := 1000000) (disch := omega) only [push_cast, ↓wc_seq, ↓wc_block, ↓wc_scope, ↓wc_condL, ↓wc_region, ↓wr_cons, ↓wr_consgL, ↓wr_nil, ↓wo_pickL, ↓wo_callf, ↓wc_exit, ↓wc_ret, ↓wc_skip, ↓wc_wl, wo_some, wo_none, wo_ite, opQ_eq, seqQ_normal, seqQ_exit, seqQ_ret, blockQ_normal, blockQ_exit, blockQ_ret, iterQ_normal, iterQ_exit, iterQ_ret, retQ_normal, retQ_ret, retQ_exit, pickC_true, pickC_false, pickO_true, pickO_false, gstep_tt, gstep_ff, gstep_tf, gstep_ft, gstep_skip, int_bne, int_beq, decide_not, Nat.reduceAdd, Nat.reduceMul, Nat.reduceSub, Nat.reducePow, Nat.reduceLT, Nat.reduceLeDiff, Nat.reduceEqDiff, Int.reduceToNat, Int.reduceAdd, Int.reduceSub, Int.reduceNeg, Int.reduceMul, Int.reduceLT, Int.reduceLE, Int.reduceEq, le_max, ↓wo_build, ↓wo_buildSlice, evParts, ↓reduceIte, planIds, hasExt, cntFs, idxFs, clnFs, ovlFs, List.contains_cons, List.contains_nil, List.any_cons, List.any_nil, Nat.reduceBEq, setC, List.length_set, decide_eq_true_eq, decide_eq_false_iff_not, true_implies, false_implies, forall_const, reduceCtorEq, eq_self, Int.natCast_nonneg, Int.toNat_natCast, Int.ofNat_lt, D.int.injEq, Option.some.injEq, Nat.zero_add, Nat.add_zero, bne_iff_ne, bne_eq_false_iff_eq, beq_iff_eq, beq_eq_false_iff_ne, gt_iff_lt, ne_eq, not_true_eq_false, not_false_eq_true, planIds, hasExt, cntFs, idxFs, clnFs, ovlFs, List.contains_cons, List.contains_nil, List.any_cons, List.any_nil, Nat.reduceBEq, Nat.reduceMul, Nat.reduceAdd, ↓reduceIte, hal, h0, h1, h2, h9, List.length_map, Nat.lt_irrefl, Tryd.f70]
  obtain ⟨u, hu⟩ : ∃ u, p[i]? = some u := ⟨p[i], by simp⟩
  obtain ⟨w, hw⟩ : ∃ u, q[i]? = some u := ⟨q[i]'(by omega), by simp⟩
  rw [drop_at hu, drop_at hw, List.cons_lt_cons_iff] at hv
  have hww : IntKind.i64.wrap ((i : Int) + 1) = (i : Int) + 1 := wrap_ok (by omega) (by omega)
  have hlq : i < q.length := by omega
  by_cases e4 : u = w
  · subst e4
    have hv' : v = true ↔ p.drop (i + 1) < q.drop (i + 1) := by
      rw [hv]
      exact ⟨fun h => by rcases h with h | ⟨-, h⟩; exact absurd h (Nat.lt_irrefl _); exact h, fun h => .inr ⟨rfl, h⟩⟩
    rcases h.two with ⟨rfl, hx⟩ | ⟨k, rfl, hx⟩ <;> rcases g.two with ⟨rfl, gx⟩ | ⟨k', rfl, gx⟩
    all_goals
      simp (maxSteps := 1000000) (disch := omega) only [push_cast, ↓wc_seq, ↓wc_block, ↓wc_scope, ↓wc_condL, ↓wc_region, ↓wr_cons, ↓wr_consgL, ↓wr_nil, ↓wo_pickL, ↓wo_callf, ↓wc_exit, ↓wc_ret, ↓wc_skip, ↓wc_wl, wo_some, wo_none, wo_ite, opQ_eq, seqQ_normal, seqQ_exit, seqQ_ret, blockQ_normal, blockQ_exit, blockQ_ret, iterQ_normal, iterQ_exit, iterQ_ret, retQ_normal, retQ_ret, retQ_exit, pickC_true, pickC_false, pickO_true, pickO_false, gstep_tt, gstep_ff, gstep_tf, gstep_ft, gstep_skip, int_bne, int_beq, decide_not, Nat.reduceAdd, Nat.reduceMul, Nat.reduceSub, Nat.reducePow, Nat.reduceLT, Nat.reduceLeDiff, Nat.reduceEqDiff, Int.reduceToNat, Int.reduceAdd, Int.reduceSub, Int.reduceNeg, Int.reduceMul, Int.reduceLT, Int.reduceLE, Int.reduceEq, le_max, ↓wo_build, ↓wo_buildSlice, evParts, ↓reduceIte, planIds, hasExt, cntFs, idxFs, clnFs, ovlFs, List.contains_cons, List.contains_nil, List.any_cons, List.any_nil, Nat.reduceBEq, setC, List.length_set, decide_eq_true_eq, decide_eq_false_iff_not, true_implies, false_implies, forall_const, reduceCtorEq, eq_self, Int.natCast_nonneg, Int.toNat_natCast, Int.ofNat_lt, D.int.injEq, Option.some.injEq, Nat.zero_add, Nat.add_zero, bne_iff_ne, bne_eq_false_iff_eq, beq_iff_eq, beq_eq_false_iff_ne, gt_iff_lt, ne_eq, not_true_eq_false, not_false_eq_true, planIds, hasExt, cntFs, idxFs, clnFs, ovlFs, List.contains_cons, List.contains_nil, List.any_cons, List.any_nil, Nat.reduceBEq, Nat.reduceMul, Nat.reduceAdd, ↓reduceIte, hal, h0, h1, h2, h9, hlt, hlq, List.length_map, List.getElem?_map, hx, gx, hu, hw, hww, Int.natCast_add, Int.natCast_one]
      exact hv'
  · have e4' : ¬ ((u : Int) = (w : Int)) := by omega
    by_cases e5 : u < w
    · obtain rfl := yes hv (.inl e5)
      rcases h.two with ⟨rfl, hx⟩ | ⟨k, rfl, hx⟩ <;> rcases g.two with ⟨rfl, gx⟩ | ⟨k', rfl, gx⟩
      all_goals simp (maxSteps := 1000000) (disch := omega) only [push_cast, ↓wc_seq, ↓wc_block, ↓wc_scope, ↓wc_condL, ↓wc_region, ↓wr_cons, ↓wr_consgL, ↓wr_nil, ↓wo_pickL, ↓wo_callf, ↓wc_exit, ↓wc_ret, ↓wc_skip, ↓wc_wl, wo_some, wo_none, wo_ite, opQ_eq, seqQ_normal, seqQ_exit, seqQ_ret, blockQ_normal, blockQ_exit, blockQ_ret, iterQ_normal, iterQ_exit, iterQ_ret, retQ_normal, retQ_ret, retQ_exit, pickC_true, pickC_false, pickO_true, pickO_false, gstep_tt, gstep_ff, gstep_tf, gstep_ft, gstep_skip, int_bne, int_beq, decide_not, Nat.reduceAdd, Nat.reduceMul, Nat.reduceSub, Nat.reducePow, Nat.reduceLT, Nat.reduceLeDiff, Nat.reduceEqDiff, Int.reduceToNat, Int.reduceAdd, Int.reduceSub, Int.reduceNeg, Int.reduceMul, Int.reduceLT, Int.reduceLE, Int.reduceEq, le_max, ↓wo_build, ↓wo_buildSlice, evParts, ↓reduceIte, planIds, hasExt, cntFs, idxFs, clnFs, ovlFs, List.contains_cons, List.contains_nil, List.any_cons, List.any_nil, Nat.reduceBEq, setC, List.length_set, decide_eq_true_eq, decide_eq_false_iff_not, true_implies, false_implies, forall_const, reduceCtorEq, eq_self, Int.natCast_nonneg, Int.toNat_natCast, Int.ofNat_lt, D.int.injEq, Option.some.injEq, Nat.zero_add, Nat.add_zero, bne_iff_ne, bne_eq_false_iff_eq, beq_iff_eq, beq_eq_false_iff_ne, gt_iff_lt, ne_eq, not_true_eq_false, not_false_eq_true, planIds, hasExt, cntFs, idxFs, clnFs, ovlFs, List.contains_cons, List.contains_nil, List.any_cons, List.any_nil, Nat.reduceBEq, Nat.reduceMul, Nat.reduceAdd, ↓reduceIte, hal, h0, h1, h2, h9, hlt, hlq, List.length_map, List.getElem?_map, hx, gx, hu, hw, e4', e5, Tryd.f70]
    · obtain rfl := no hv (fun h => by rcases h with h | ⟨h, -⟩ <;> contradiction)
      rcases h.two with ⟨rfl, hx⟩ | ⟨k, rfl, hx⟩ <;> rcases g.two with ⟨rfl, gx⟩ | ⟨k', rfl, gx⟩
      all_goals simp (maxSteps := 1000000) (disch := omega) only [push_cast, ↓wc_seq, ↓wc_block, ↓wc_scope, ↓wc_condL, ↓wc_region, ↓wr_cons, ↓wr_consgL, ↓wr_nil, ↓wo_pickL, ↓wo_callf, ↓wc_exit, ↓wc_ret, ↓wc_skip, ↓wc_wl, wo_some, wo_none, wo_ite, opQ_eq, seqQ_normal, seqQ_exit, seqQ_ret, blockQ_normal, blockQ_exit, blockQ_ret, iterQ_normal, iterQ_exit, iterQ_ret, retQ_normal, retQ_ret, retQ_exit, pickC_true, pickC_false, pickO_true, pickO_false, gstep_tt, gstep_ff, gstep_tf, gstep_ft, gstep_skip, int_bne, int_beq, decide_not, Nat.reduceAdd, Nat.reduceMul, Nat.reduceSub, Nat.reducePow, Nat.reduceLT, Nat.reduceLeDiff, Nat.reduceEqDiff, Int.reduceToNat, Int.reduceAdd, Int.reduceSub, Int.reduceNeg, Int.reduceMul, Int.reduceLT, Int.reduceLE, Int.reduceEq, le_max, ↓wo_build, ↓wo_buildSlice, evParts, ↓reduceIte, planIds, hasExt, cntFs, idxFs, clnFs, ovlFs, List.contains_cons, List.contains_nil, List.any_cons, List.any_nil, Nat.reduceBEq, setC, List.length_set, decide_eq_true_eq, decide_eq_false_iff_not, true_implies, false_implies, forall_const, reduceCtorEq, eq_self, Int.natCast_nonneg, Int.toNat_natCast, Int.ofNat_lt, D.int.injEq, Option.some.injEq, Nat.zero_add, Nat.add_zero, bne_iff_ne, bne_eq_false_iff_eq, beq_iff_eq, beq_eq_false_iff_ne, gt_iff_lt, ne_eq, not_true_eq_false, not_false_eq_true, planIds, hasExt, cntFs, idxFs, clnFs, ovlFs, List.contains_cons, List.contains_nil, List.any_cons, List.any_nil, Nat.reduceBEq, Nat.reduceMul, Nat.reduceAdd, ↓reduceIte, hal, h0, h1, h2, h9, hlt, hlq, List.length_map, List.getElem?_map, hx, gx, hu, hw, e4', e5, Tryd.f70]
theorem ahead_c {n : Nat} {d e : D} {p q : List Nat} {segs : List Sgm} {y : Bool} {v : Bool} {S : List Ob} (hv : v = true ↔ ahd segs p q) (h : PQ S d p) (g : PQ S e q) (hj : ∀ j ∈ p, j < segs.length) (gj : ∀ j ∈ q, j < segs.length) (hl : p.length ≤ 1000) (gl : q.length ≤ 1000) (hp : p ≠ []) (hq : q ≠ []) (hn : p.length + 1 < n) (st : Bool) :
    callD E (dcall E n) st S 70 [.sl 7 (segs.map Sgm.enc) y, d, e] = some (.bool v, S) := by
  obtain ⟨m, rfl⟩ : ∃ m, n = m + 1 := ⟨n - 1, by omega⟩
  by_cases hpp : pureL [.sl 7 (segs.map Sgm.enc) y, d, e] = true
  · simp only [pureL_cons, pureL_nil, Bool.and_eq_true] at hpp
    obtain ⟨_, T, ho, rfl, rfl⟩ := ahead_d (n := m) (y := y) hv (h.pure hpp.2.1) (g.pure hpp.2.2.1) hj gj hl gl hp hq (by omega)
    exact callD_obsP rfl (by simp only [pureL_cons, pureL_nil, Bool.and_eq_true]; exact hpp) ho rfl
  · obtain ⟨_, T, ho, rfl, rfl⟩ := ahead_d (n := m) (y := y) hv h g hj gj hl gl hp hq (by omega)
    exact callD_obs rfl (by simpa using hpp) ho rfl

/-- A list that grows, or an empty one that is written down. -/
def GG {α : Type} (sz : Nat) (enc : α → List D) (S : List Ob) (d : D) (l : List α) : Prop := (d = .sl sz [] true ∧ l = []) ∨ GL sz enc S d l
section
variable {α : Type} {enc : α → List D} {S T : List Ob} {d : D} {l : List α}
set_option maxHeartbeats 1000000 in
/-- An append of a list. -/
theorem app_src {t e : TypeId} {z x : D} {n : Nat} {r : List α} (h1 : elemT Tryd.prog t = some e) (h2 : sizeT Tryd.prog e = some (n + 1)) (h3 : zeroT Tryd.prog e = some z) (h4 : z.cells.length = n + 1) (h5 : bytesT Tryd.prog e ≤ 100000) (h : GG (n + 1) enc S d l) (hx : srcOf S (n + 1) x = some (r.map enc)) (hl : l.length + r.length ≤ 100000) :
    ∃ d' S', dAppend Tryd.prog S t t d x = some (d', S') ∧ GG (n + 1) enc S' d' (l ++ r) ∧ S.length ≤ S'.length ∧ (∀ k o, own d ≠ some k → S[k]? = some o → S'[k]? = some o) ∧ (own d' = own d ∨ ∃ k, own d' = some k ∧ S.length ≤ k) ∧ (r ≠ [] → ∃ k, d' = .os k 0 (l ++ r).length false) := by
  obtain ⟨xs, hxs⟩ : ∃ xs, xs = r.map enc := ⟨_, rfl⟩
  have hxl : xs.length = r.length := by rw [hxs]; simp
  rw [← hxs] at hx
  rcases r with _ | ⟨r0, r⟩
  · have hz : xs = [] := by rw [hxs]; rfl
    subst hz
    refine ⟨d, S, ?_, by rw [List.append_nil]; exact h, Nat.le_refl _, fun _ _ _ h => h, .inl rfl, fun h => absurd rfl h⟩
    have : ∃ old, srcOf S (n + 1) d = some old := by
      rcases h with ⟨rfl, rfl⟩ | ⟨rfl, rfl⟩ | ⟨k, rfl, hk⟩
      · exact ⟨[], by simp [srcOf]⟩
      · exact ⟨[], rfl⟩
      · exact ⟨((l.map enc).drop 0).take l.length, by simp [srcOf, hk]⟩
    obtain ⟨old, ho⟩ := this
    simp only [dAppend, if_true, h1, h2, h3, h4, ho, hx, List.length_nil, ↓reduceIte]
  obtain ⟨r, hr⟩ : ∃ r', r' = r0 :: r := ⟨_, rfl⟩
  rw [← hr] at hxs hxl hl ⊢
  have hne : r.length ≠ 0 := by rw [hr]; simp
  have hxz : xs.length ≠ 0 := by omega
  clear hr
  have hb : (l.length + r.length) * bytesT Tryd.prog e ≤ 140737488355328 := Nat.le_trans (Nat.mul_le_mul hl h5) (by decide)
  have hm : (l.length + r.length ≤ maxLen) = True := le_max (by omega)
  rw [← hxl] at hb hm
  rcases h with ⟨rfl, rfl⟩ | ⟨rfl, rfl⟩ | ⟨k, rfl, hk⟩
  · refine ⟨.os S.length 0 xs.length false, S ++ [.row (n + 1) xs], ?_, .inr (.inr ⟨S.length, by simp [hxl], by rw [hxs]; exact get_end⟩), by simp, fun k o _ h => get_old h, .inr ⟨_, rfl, Nat.le_refl _⟩, fun _ => ⟨S.length, by simp [hxl]⟩⟩
    simp only [List.length_nil, Nat.zero_add] at hm hb
    have h0 : srcOf S (n + 1) (.sl (n + 1) [] true) = some [] := by simp [srcOf]
    simp only [dAppend, if_true, h1, h2, h3, h4, h0, hx, hxz, if_false, List.length_nil, Nat.zero_add, hm, hb, and_self, ↓reduceIte, List.nil_append]
  · refine ⟨.os S.length 0 xs.length false, S ++ [.row (n + 1) xs], ?_, .inr (.inr ⟨S.length, by simp [hxl], by rw [hxs]; exact get_end⟩), by simp, fun k o _ h => get_old h, .inr ⟨_, rfl, Nat.le_refl _⟩, fun _ => ⟨S.length, by simp [hxl]⟩⟩
    simp only [List.length_nil, Nat.zero_add] at hm hb
    have h0 : srcOf S (n + 1) .nils = some [] := by simp [srcOf]
    simp only [dAppend, if_true, h1, h2, h3, h4, h0, hx, hxz, if_false, List.length_nil, Nat.zero_add, hm, hb, and_self, ↓reduceIte]
  · have hel : (l.map enc).length = l.length := by simp
    have h0 : srcOf S (n + 1) (.os k 0 l.length false) = some (l.map enc) := by
      simp only [srcOf, hk, hel, Nat.zero_add, Nat.le_refl, and_self, if_true, List.drop_zero, ↓reduceIte]
      rw [← hel, List.take_length]
    refine ⟨.os S.length 0 (l.length + xs.length) false, S.set k .dead ++ [.row (n + 1) (l.map enc ++ xs)], ?_, .inr (.inr ⟨S.length, by simp [hxl], by rw [hxs, ← List.map_append]; exact get_end'⟩), by simp, fun k' o hd h => ?_, .inr ⟨_, rfl, Nat.le_refl _⟩, fun _ => ⟨S.length, by simp [hxl]⟩⟩
    · generalize l.map enc = es at *
      simp only [dAppend, if_true, h1, h2, h3, h4, h0, hk, hel, and_self, hx, hxz, if_false, hm, hb, ↓reduceIte]
    · have hne : k ≠ k' := fun e => by subst e; exact hd rfl
      exact get_old (by rw [List.getElem?_set_ne hne]; exact h)
end
/-- A journey in a list. -/
abbrev encP (q : D × List Nat) : List D := [q.1]
def takeD : D → Nat → D
  | .os q _ _ _, k => .os q 0 k false
  | d, _ => d
def dropD : D → Nat → D
  | .os q _ n _, k => if n = k ∧ 0 < k then .sl 1 [] false else .os q k (n - k) false
  | d, _ => d
theorem sl_take {S : List Ob} {d : D} {o : List (D × List Nat)} (h : GL 1 encP S d o) {k : Nat} (hk : k ≤ o.length) : srcOf S 1 (takeD d k) = some ((o.take k).map encP) := by
  rcases h with ⟨rfl, rfl⟩ | ⟨q, rfl, hq⟩
  · obtain rfl : k = 0 := by simpa using hk
    rfl
  · simp only [takeD, srcOf, hq, List.length_map, Nat.zero_add, hk, and_self, if_true, List.drop_zero, ↓reduceIte, List.map_take]
theorem sl_drop {S : List Ob} {d : D} {o : List (D × List Nat)} (h : GL 1 encP S d o) {k : Nat} (hk : k ≤ o.length) : srcOf S 1 (dropD d k) = some ((o.drop k).map encP) := by
  rcases h with ⟨rfl, rfl⟩ | ⟨q, rfl, hq⟩
  · obtain rfl : k = 0 := by simpa using hk
    rfl
  · unfold dropD
    dsimp only
    by_cases g : o.length = k ∧ 0 < k
    · rw [if_pos g, List.drop_of_length_le (by omega)]; simp [srcOf]
    · rw [if_neg g]
      have : k + (o.length - k) ≤ o.length := by omega
      have e : ((o.map encP).drop k).take (o.length - k) = (o.map encP).drop k := List.take_of_length_le (by simp)
      simp only [srcOf, hq, List.length_map, this, and_self, if_true, ↓reduceIte, e, List.map_drop]
structure PJ (S : List Ob) (segs : List Sgm) (z : D × List Nat) : Prop where
  pq : PQ S z.1 z.2
  non : z.2 ≠ []
  len : z.2.length ≤ 100
  ind : ∀ j ∈ z.2, j < segs.length
theorem PJ.ext {S T : List Ob} {segs : List Sgm} {z : D × List Nat} (h : PJ S segs z) (g : ExtS S T) : PJ T segs z := ⟨h.pq.ext g, h.non, h.len, h.ind⟩
set_option maxHeartbeats 8000000 in
set_option maxRecDepth 100000 in
theorem insert_d {n : Nat} {d x : D} {o : List (D × List Nat)} {xp : List Nat} {segs : List Sgm} {y : Bool} {S : List Ob} (hd : GL 1 encP S d o) (ho : ∀ z ∈ o, PJ S segs z) (hx : PJ S segs (x, xp)) (hl : o.length ≤ 50000) (hn : o.length + 200 < n) :
    WO (dcall E (n + 1) 47 [.sl 7 (segs.map Sgm.enc) y, d, x] S) fun r T => ∃ o1 o2, o = o1 ++ o2 ∧ GL 1 encP T r (o1 ++ (x, xp) :: o2) ∧ ExtS S T ∧ (∀ z ∈ o2, ahd segs xp z.2) ∧ (∀ z, o1.getLast? = some z → ¬ ahd segs xp z.2) := by
  refine wo_dcall Tryd.func47 rfl (by decide) rfl 39 rfl (fun a hal ha => ?_)
  have h0 : a[0]? = some (.sl 7 (segs.map Sgm.enc) y) := ha 0 (by simp)
  have h1 : a[1]? = some (d) := ha 1 (by simp)
  have h2 : a[2]? = some (x) := ha 2 (by simp)
  clear ha
  rw [wc_asc, wc_asc]
  refine wc_scut (fun a T => T = S ∧ ∃ k : Nat, k ≤ o.length ∧ a.length = 39 ∧ a[0]? = some (.sl 7 (segs.map Sgm.enc) y) ∧ a[1]? = some (d) ∧ a[2]? = some (x) ∧ a[7]? = some (.int .i64 k) ∧ (∀ z ∈ o.drop k, ahd segs xp z.2) ∧ (∀ z, (o.take k).getLast? = some z → ¬ ahd segs xp z.2)) ?_ ?_
  · refine wc_scut (fun a T => T = S ∧ a.length = 39 ∧ a[0]? = some (.sl 7 (segs.map Sgm.enc) y) ∧ a[1]? = some (d) ∧ a[2]? = some (x) ∧ a[7]? = some (.int .i64 o.length)) ?_ ?_
    · rcases hd with ⟨rfl, rfl⟩ | ⟨k, rfl, hk⟩
      · simp (maxSteps := 1000000) (disch := omega) only [push_cast, ↓wc_seq, ↓wc_block, ↓wc_scope, ↓wc_condL, ↓wc_region, ↓wr_cons, ↓wr_consgL, ↓wr_nil, ↓wo_pickL, ↓wo_callf, ↓wc_exit, ↓wc_ret, ↓wc_skip, ↓wc_wl, wo_some, wo_none, wo_ite, opQ_eq, seqQ_normal, seqQ_exit, seqQ_ret, blockQ_normal, blockQ_exit, blockQ_ret, iterQ_normal, iterQ_exit, iterQ_ret, retQ_normal, retQ_ret, retQ_exit, pickC_true, pickC_false, pickO_true, pickO_false, gstep_tt, gstep_ff, gstep_tf, gstep_ft, gstep_skip, int_bne, int_beq, decide_not, Nat.reduceAdd, Nat.reduceMul, Nat.reduceSub, Nat.reducePow, Nat.reduceLT, Nat.reduceLeDiff, Nat.reduceEqDiff, Int.reduceToNat, Int.reduceAdd, Int.reduceSub, Int.reduceNeg, Int.reduceMul, Int.reduceLT, Int.reduceLE, Int.reduceEq, le_max, ↓wo_build, ↓wo_buildSlice, evParts, ↓reduceIte, planIds, hasExt, cntFs, idxFs, clnFs, ovlFs, List.contains_cons, List.contains_nil, List.any_cons, List.any_nil, Nat.reduceBEq, setC, List.length_set, decide_eq_true_eq, decide_eq_false_iff_not, true_implies, false_implies, forall_const, reduceCtorEq, eq_self, Int.natCast_nonneg, Int.toNat_natCast, Int.ofNat_lt, D.int.injEq, Option.some.injEq, Nat.zero_add, Nat.add_zero, bne_iff_ne, bne_eq_false_iff_eq, beq_iff_eq, beq_eq_false_iff_ne, gt_iff_lt, ne_eq, not_true_eq_false, not_false_eq_true, planIds, hasExt, cntFs, idxFs, clnFs, ovlFs, List.contains_cons, List.contains_nil, List.any_cons, List.any_nil, Nat.reduceBEq, Nat.reduceMul, Nat.reduceAdd, ↓reduceIte, hal, h0, h1, h2, List.length_nil, Int.natCast_zero]
      · simp (maxSteps := 1000000) (disch := omega) only [push_cast, ↓wc_seq, ↓wc_block, ↓wc_scope, ↓wc_condL, ↓wc_region, ↓wr_cons, ↓wr_consgL, ↓wr_nil, ↓wo_pickL, ↓wo_callf, ↓wc_exit, ↓wc_ret, ↓wc_skip, ↓wc_wl, wo_some, wo_none, wo_ite, opQ_eq, seqQ_normal, seqQ_exit, seqQ_ret, blockQ_normal, blockQ_exit, blockQ_ret, iterQ_normal, iterQ_exit, iterQ_ret, retQ_normal, retQ_ret, retQ_exit, pickC_true, pickC_false, pickO_true, pickO_false, gstep_tt, gstep_ff, gstep_tf, gstep_ft, gstep_skip, int_bne, int_beq, decide_not, Nat.reduceAdd, Nat.reduceMul, Nat.reduceSub, Nat.reducePow, Nat.reduceLT, Nat.reduceLeDiff, Nat.reduceEqDiff, Int.reduceToNat, Int.reduceAdd, Int.reduceSub, Int.reduceNeg, Int.reduceMul, Int.reduceLT, Int.reduceLE, Int.reduceEq, le_max, ↓wo_build, ↓wo_buildSlice, evParts, ↓reduceIte, planIds, hasExt, cntFs, idxFs, clnFs, ovlFs, List.contains_cons, List.contains_nil, List.any_cons, List.any_nil, Nat.reduceBEq, setC, List.length_set, decide_eq_true_eq, decide_eq_false_iff_not, true_implies, false_implies, forall_const, reduceCtorEq, eq_self, Int.natCast_nonneg, Int.toNat_natCast, Int.ofNat_lt, D.int.injEq, Option.some.injEq, Nat.zero_add, Nat.add_zero, bne_iff_ne, bne_eq_false_iff_eq, beq_iff_eq, beq_eq_false_iff_ne, gt_iff_lt, ne_eq, not_true_eq_false, not_false_eq_true, planIds, hasExt, cntFs, idxFs, clnFs, ovlFs, List.contains_cons, List.contains_nil, List.any_cons, List.any_nil, Nat.reduceBEq, Nat.reduceMul, Nat.reduceAdd, ↓reduceIte, hal, h0, h1, h2]
    clear hal h0 h1 h2 a
    rintro a T ⟨rfl, hal, h0, h1, h2, h7⟩
    simp (maxSteps := 1000000) (disch := omega) only [push_cast, ↓wc_seq, ↓wc_block, ↓wc_scope, ↓wc_condL, ↓wc_region, ↓wr_cons, ↓wr_consgL, ↓wr_nil, ↓wo_pickL, ↓wo_callf, ↓wc_exit, ↓wc_ret, ↓wc_skip, ↓wc_wl, wo_some, wo_none, wo_ite, opQ_eq, seqQ_normal, seqQ_exit, seqQ_ret, blockQ_normal, blockQ_exit, blockQ_ret, iterQ_normal, iterQ_exit, iterQ_ret, retQ_normal, retQ_ret, retQ_exit, pickC_true, pickC_false, pickO_true, pickO_false, gstep_tt, gstep_ff, gstep_tf, gstep_ft, gstep_skip, int_bne, int_beq, decide_not, Nat.reduceAdd, Nat.reduceMul, Nat.reduceSub, Nat.reducePow, Nat.reduceLT, Nat.reduceLeDiff, Nat.reduceEqDiff, Int.reduceToNat, Int.reduceAdd, Int.reduceSub, Int.reduceNeg, Int.reduceMul, Int.reduceLT, Int.reduceLE, Int.reduceEq, le_max, ↓wo_build, ↓wo_buildSlice, evParts, ↓reduceIte, planIds, hasExt, cntFs, idxFs, clnFs, ovlFs, List.contains_cons, List.contains_nil, List.any_cons, List.any_nil, Nat.reduceBEq, setC, List.length_set, decide_eq_true_eq, decide_eq_false_iff_not, true_implies, false_implies, forall_const, reduceCtorEq, eq_self, Int.natCast_nonneg, Int.toNat_natCast, Int.ofNat_lt, D.int.injEq, Option.some.injEq, Nat.zero_add, Nat.add_zero, bne_iff_ne, bne_eq_false_iff_eq, beq_iff_eq, beq_eq_false_iff_ne, gt_iff_lt, ne_eq, not_true_eq_false, not_false_eq_true, planIds, hasExt, cntFs, idxFs, clnFs, ovlFs, List.contains_cons, List.contains_nil, List.any_cons, List.any_nil, Nat.reduceBEq, Nat.reduceMul, Nat.reduceAdd, ↓reduceIte, hal, h0, h1, h2, h7]
    refine wl_loop (fun i a T' => T' = T ∧ ∃ k : Nat, k + i = o.length ∧ a.length = 39 ∧ a[0]? = some (.sl 7 (segs.map Sgm.enc) y) ∧ a[1]? = some (d) ∧ a[2]? = some (x) ∧ a[7]? = some (.int .i64 k) ∧ ∀ z ∈ o.drop k, ahd segs xp z.2) o.length ?_ (by omega) ?_
    · simp (maxSteps := 1000000) (disch := omega) only [push_cast, ↓wc_seq, ↓wc_block, ↓wc_scope, ↓wc_condL, ↓wc_region, ↓wr_cons, ↓wr_consgL, ↓wr_nil, ↓wo_pickL, ↓wo_callf, ↓wc_exit, ↓wc_ret, ↓wc_skip, ↓wc_wl, wo_some, wo_none, wo_ite, opQ_eq, seqQ_normal, seqQ_exit, seqQ_ret, blockQ_normal, blockQ_exit, blockQ_ret, iterQ_normal, iterQ_exit, iterQ_ret, retQ_normal, retQ_ret, retQ_exit, pickC_true, pickC_false, pickO_true, pickO_false, gstep_tt, gstep_ff, gstep_tf, gstep_ft, gstep_skip, int_bne, int_beq, decide_not, Nat.reduceAdd, Nat.reduceMul, Nat.reduceSub, Nat.reducePow, Nat.reduceLT, Nat.reduceLeDiff, Nat.reduceEqDiff, Int.reduceToNat, Int.reduceAdd, Int.reduceSub, Int.reduceNeg, Int.reduceMul, Int.reduceLT, Int.reduceLE, Int.reduceEq, le_max, ↓wo_build, ↓wo_buildSlice, evParts, ↓reduceIte, planIds, hasExt, cntFs, idxFs, clnFs, ovlFs, List.contains_cons, List.contains_nil, List.any_cons, List.any_nil, Nat.reduceBEq, setC, List.length_set, decide_eq_true_eq, decide_eq_false_iff_not, true_implies, false_implies, forall_const, reduceCtorEq, eq_self, Int.natCast_nonneg, Int.toNat_natCast, Int.ofNat_lt, D.int.injEq, Option.some.injEq, Nat.zero_add, Nat.add_zero, bne_iff_ne, bne_eq_false_iff_eq, beq_iff_eq, beq_eq_false_iff_ne, gt_iff_lt, ne_eq, not_true_eq_false, not_false_eq_true, planIds, hasExt, cntFs, idxFs, clnFs, ovlFs, List.contains_cons, List.contains_nil, List.any_cons, List.any_nil, Nat.reduceBEq, Nat.reduceMul, Nat.reduceAdd, ↓reduceIte, hal, h0, h1, h2, h7]
      exact ⟨o.length, rfl, rfl, by simp⟩
    clear hal h0 h1 h2 h7 a
    rintro i a T' hi ⟨rfl, k, hk, hal, h0, h1, h2, h7, hv⟩
    rcases k with _ | k
    · have g0 : ¬ (0 : Int) < ((0 : Nat) : Int) := by omega
      simp (maxSteps := 1000000) (disch := omega) only [push_cast, ↓wc_seq, ↓wc_block, ↓wc_scope, ↓wc_condL, ↓wc_region, ↓wr_cons, ↓wr_consgL, ↓wr_nil, ↓wo_pickL, ↓wo_callf, ↓wc_exit, ↓wc_ret, ↓wc_skip, ↓wc_wl, wo_some, wo_none, wo_ite, opQ_eq, seqQ_normal, seqQ_exit, seqQ_ret, blockQ_normal, blockQ_exit, blockQ_ret, iterQ_normal, iterQ_exit, iterQ_ret, retQ_normal, retQ_ret, retQ_exit, pickC_true, pickC_false, pickO_true, pickO_false, gstep_tt, gstep_ff, gstep_tf, gstep_ft, gstep_skip, int_bne, int_beq, decide_not, Nat.reduceAdd, Nat.reduceMul, Nat.reduceSub, Nat.reducePow, Nat.reduceLT, Nat.reduceLeDiff, Nat.reduceEqDiff, Int.reduceToNat, Int.reduceAdd, Int.reduceSub, Int.reduceNeg, Int.reduceMul, Int.reduceLT, Int.reduceLE, Int.reduceEq, le_max, ↓wo_build, ↓wo_buildSlice, evParts, ↓reduceIte, planIds, hasExt, cntFs, idxFs, clnFs, ovlFs, List.contains_cons, List.contains_nil, List.any_cons, List.any_nil, Nat.reduceBEq, setC, List.length_set, decide_eq_true_eq, decide_eq_false_iff_not, true_implies, false_implies, forall_const, reduceCtorEq, eq_self, Int.natCast_nonneg, Int.toNat_natCast, Int.ofNat_lt, D.int.injEq, Option.some.injEq, Nat.zero_add, Nat.add_zero, bne_iff_ne, bne_eq_false_iff_eq, beq_iff_eq, beq_eq_false_iff_ne, gt_iff_lt, ne_eq, not_true_eq_false, not_false_eq_true, planIds, hasExt, cntFs, idxFs, clnFs, ovlFs, List.contains_cons, List.contains_nil, List.any_cons, List.any_nil, Nat.reduceBEq, Nat.reduceMul, Nat.reduceAdd, ↓reduceIte, hal, h0, h1, h2, h7, g0, gt_iff_lt]
      exact ⟨0, Nat.zero_le _, rfl, hv, fun z hz => by simp at hz⟩
    obtain ⟨z, hz⟩ : ∃ z, o[k]? = some z := ⟨o[k]'(by omega), by simp⟩
    have pz := ho z (List.mem_of_getElem? hz)
    have g0 : (0 : Int) < ((k + 1 : Nat) : Int) := by omega
    have w1 : IntKind.i64.wrap (((k + 1 : Nat) : Int) - 1) = (k : Int) := by rw [wrap_ok (by omega) (by omega)]; omega
    have hkl : k < o.length := by omega
    obtain ⟨v, hva⟩ : ∃ v : Bool, v = true ↔ ahd segs xp z.2 := by
      by_cases h : ahd segs xp z.2
      · exact ⟨true, ⟨fun _ => h, fun _ => rfl⟩⟩
      · exact ⟨false, ⟨fun e => Bool.noConfusion e, fun e => absurd e h⟩⟩
    have xl : xp.length ≤ 100 := hx.len
    have zl := pz.len
    have ca := ahead_c (n := n) (y := y) hva hx.pq pz.pq hx.ind pz.ind (by omega) (by omega) hx.non pz.non (by omega)
    obtain ⟨kk, hkk⟩ : ∃ kk, kk = k + 1 := ⟨_, rfl⟩
    rw [← hkk] at h7 g0 w1
    rcases hd with ⟨rfl, rfl⟩ | ⟨q, rfl, hq⟩
    · simp at hkl
    rcases pz.pq.two with ⟨hz1, hx1⟩ | ⟨k', hz1, hx1⟩
    all_goals
      rw [hz1] at ca
      cases v
      · simp (maxSteps := 1000000) (disch := omega) only [push_cast, ↓wc_seq, ↓wc_block, ↓wc_scope, ↓wc_condL, ↓wc_region, ↓wr_cons, ↓wr_consgL, ↓wr_nil, ↓wo_pickL, ↓wo_callf, ↓wc_exit, ↓wc_ret, ↓wc_skip, ↓wc_wl, wo_some, wo_none, wo_ite, opQ_eq, seqQ_normal, seqQ_exit, seqQ_ret, blockQ_normal, blockQ_exit, blockQ_ret, iterQ_normal, iterQ_exit, iterQ_ret, retQ_normal, retQ_ret, retQ_exit, pickC_true, pickC_false, pickO_true, pickO_false, gstep_tt, gstep_ff, gstep_tf, gstep_ft, gstep_skip, int_bne, int_beq, decide_not, Nat.reduceAdd, Nat.reduceMul, Nat.reduceSub, Nat.reducePow, Nat.reduceLT, Nat.reduceLeDiff, Nat.reduceEqDiff, Int.reduceToNat, Int.reduceAdd, Int.reduceSub, Int.reduceNeg, Int.reduceMul, Int.reduceLT, Int.reduceLE, Int.reduceEq, le_max, ↓wo_build, ↓wo_buildSlice, evParts, ↓reduceIte, planIds, hasExt, cntFs, idxFs, clnFs, ovlFs, List.contains_cons, List.contains_nil, List.any_cons, List.any_nil, Nat.reduceBEq, setC, List.length_set, decide_eq_true_eq, decide_eq_false_iff_not, true_implies, false_implies, forall_const, reduceCtorEq, eq_self, Int.natCast_nonneg, Int.toNat_natCast, Int.ofNat_lt, D.int.injEq, Option.some.injEq, Nat.zero_add, Nat.add_zero, bne_iff_ne, bne_eq_false_iff_eq, beq_iff_eq, beq_eq_false_iff_ne, gt_iff_lt, ne_eq, not_true_eq_false, not_false_eq_true, planIds, hasExt, cntFs, idxFs, clnFs, ovlFs, List.contains_cons, List.contains_nil, List.any_cons, List.any_nil, Nat.reduceBEq, Nat.reduceMul, Nat.reduceAdd, ↓reduceIte, hal, h0, h1, h2, h7, g0, gt_iff_lt, w1, hkl, hq, List.getElem?_map, hz, hz1, ca]
        refine ⟨kk, by omega, rfl, by rw [hkk]; exact hv, fun z' hz' => ?_⟩
        rw [hkk, List.take_add_one, hz, Option.toList_some, List.getLast?_concat] at hz'
        obtain rfl := Option.some.inj hz'
        exact fun h => Bool.noConfusion (hva.2 h)
      · simp (maxSteps := 1000000) (disch := omega) only [push_cast, ↓wc_seq, ↓wc_block, ↓wc_scope, ↓wc_condL, ↓wc_region, ↓wr_cons, ↓wr_consgL, ↓wr_nil, ↓wo_pickL, ↓wo_callf, ↓wc_exit, ↓wc_ret, ↓wc_skip, ↓wc_wl, wo_some, wo_none, wo_ite, opQ_eq, seqQ_normal, seqQ_exit, seqQ_ret, blockQ_normal, blockQ_exit, blockQ_ret, iterQ_normal, iterQ_exit, iterQ_ret, retQ_normal, retQ_ret, retQ_exit, pickC_true, pickC_false, pickO_true, pickO_false, gstep_tt, gstep_ff, gstep_tf, gstep_ft, gstep_skip, int_bne, int_beq, decide_not, Nat.reduceAdd, Nat.reduceMul, Nat.reduceSub, Nat.reducePow, Nat.reduceLT, Nat.reduceLeDiff, Nat.reduceEqDiff, Int.reduceToNat, Int.reduceAdd, Int.reduceSub, Int.reduceNeg, Int.reduceMul, Int.reduceLT, Int.reduceLE, Int.reduceEq, le_max, ↓wo_build, ↓wo_buildSlice, evParts, ↓reduceIte, planIds, hasExt, cntFs, idxFs, clnFs, ovlFs, List.contains_cons, List.contains_nil, List.any_cons, List.any_nil, Nat.reduceBEq, setC, List.length_set, decide_eq_true_eq, decide_eq_false_iff_not, true_implies, false_implies, forall_const, reduceCtorEq, eq_self, Int.natCast_nonneg, Int.toNat_natCast, Int.ofNat_lt, D.int.injEq, Option.some.injEq, Nat.zero_add, Nat.add_zero, bne_iff_ne, bne_eq_false_iff_eq, beq_iff_eq, beq_eq_false_iff_ne, gt_iff_lt, ne_eq, not_true_eq_false, not_false_eq_true, planIds, hasExt, cntFs, idxFs, clnFs, ovlFs, List.contains_cons, List.contains_nil, List.any_cons, List.any_nil, Nat.reduceBEq, Nat.reduceMul, Nat.reduceAdd, ↓reduceIte, hal, h0, h1, h2, h7, g0, gt_iff_lt, w1, hkl, hq, List.getElem?_map, hz, hz1, ca]
        refine ⟨by omega, k, by omega, rfl, fun z' hz' => ?_⟩
        rw [drop_at hz] at hz'
        rcases List.mem_cons.1 hz' with rfl | h
        · exact hva.1 rfl
        · exact hv z' h
  clear hal h0 h1 h2 a
  rintro a T ⟨rfl, k, hk, hal, h0, h1, h2, h7, hv1, hv2⟩
  have t1 : elemT Tryd.prog 43 = some 54 := by kernel_rfl
  have t2 : sizeT Tryd.prog 54 = some 1 := by kernel_rfl
  have t3 : zeroT Tryd.prog 54 = some .nils := by kernel_rfl
  have t5 : bytesT Tryd.prog 54 ≤ 100000 := Nat.le_of_ble_eq_true (by kernel_rfl)
  have s1 := sl_take hd hk
  have hkl : (o.take k).length = k := by rw [List.length_take]; omega
  have hdl : (o.drop k).length = o.length - k := List.length_drop
  obtain ⟨d2, S2, a2, g2, l2, x2, w2, -⟩ := app_src t1 t2 t3 rfl t5 (S := T) (d := .sl 1 [] true) (l := ([] : List (D × List Nat))) (.inl ⟨rfl, rfl⟩) s1 (by simp only [List.length_nil, hkl]; omega)
  rw [List.nil_append] at g2
  have k2 : ExtS T S2 := fun k o h => x2 k o (fun h => by cases h) h
  replace w2 : ∀ k, own d2 = some k → T.length ≤ k := fun k h => by
    rcases w2 with w2 | ⟨k', h1, h2⟩
    · rw [w2] at h; cases h
    · rw [h1] at h; cases h; exact h2
  obtain ⟨d3, S3, a3, g3, l3, x3, w3, -⟩ := app_src t1 t2 t3 rfl t5 (x := .sl 1 [[x]] true) (r := [(x, xp)]) g2 (by simp [srcOf]) (by simp only [List.length_cons, List.length_nil, hkl]; omega)
  have k3 : ExtS T S3 := fun k o h => x3 k o (fun h' => by have := w2 _ h'; have := (List.getElem?_eq_some_iff.1 h).1; omega) (k2 k o h)
  replace w3 : ∀ k, own d3 = some k → T.length ≤ k := fun k h => by
    rcases w3 with w3 | ⟨k', h1, h2⟩
    · rw [w3] at h; exact w2 k h
    · rw [h1] at h; cases h; omega
  have s4 := sl_drop (hd.ext k3) hk
  obtain ⟨d5, S5, a5, g5, l5, x5, w5, -⟩ := app_src t1 t2 t3 rfl t5 g3 s4 (by simp only [List.length_append, List.length_cons, List.length_nil, hkl, hdl]; omega)
  have k5 : ExtS T S5 := fun k o h => x5 k o (fun h' => by have := w3 _ h'; have := (List.getElem?_eq_some_iff.1 h).1; omega) (k3 k o h)
  have g6 : GL 1 encP S5 d5 (o.take k ++ (x, xp) :: o.drop k) := by
    rcases g5 with ⟨-, h⟩ | h
    · simp at h
    · simpa using h
  have hk0 : (0 : Int) ≤ (k : Int) := by omega
  rcases hd with ⟨rfl, rfl⟩ | ⟨q, rfl, hq⟩
  · obtain rfl : k = 0 := by simpa using hk
    simp only [takeD, dropD] at a2 a5
    refine wc_scut (fun a T => T = S2 ∧ a.length = 39 ∧ a[1]? = some (.nils) ∧ a[2]? = some (x) ∧ a[7]? = some (.int .i64 (0 : Nat)) ∧ a[8]? = some (d2)) ?_ ?_
    · simp (maxSteps := 1000000) (disch := omega) only [push_cast, ↓wc_seq, ↓wc_block, ↓wc_scope, ↓wc_condL, ↓wc_region, ↓wr_cons, ↓wr_consgL, ↓wr_nil, ↓wo_pickL, ↓wo_callf, ↓wc_exit, ↓wc_ret, ↓wc_skip, ↓wc_wl, wo_some, wo_none, wo_ite, opQ_eq, seqQ_normal, seqQ_exit, seqQ_ret, blockQ_normal, blockQ_exit, blockQ_ret, iterQ_normal, iterQ_exit, iterQ_ret, retQ_normal, retQ_ret, retQ_exit, pickC_true, pickC_false, pickO_true, pickO_false, gstep_tt, gstep_ff, gstep_tf, gstep_ft, gstep_skip, int_bne, int_beq, decide_not, Nat.reduceAdd, Nat.reduceMul, Nat.reduceSub, Nat.reducePow, Nat.reduceLT, Nat.reduceLeDiff, Nat.reduceEqDiff, Int.reduceToNat, Int.reduceAdd, Int.reduceSub, Int.reduceNeg, Int.reduceMul, Int.reduceLT, Int.reduceLE, Int.reduceEq, le_max, ↓wo_build, ↓wo_buildSlice, evParts, ↓reduceIte, planIds, hasExt, cntFs, idxFs, clnFs, ovlFs, List.contains_cons, List.contains_nil, List.any_cons, List.any_nil, Nat.reduceBEq, setC, List.length_set, decide_eq_true_eq, decide_eq_false_iff_not, true_implies, false_implies, forall_const, reduceCtorEq, eq_self, Int.natCast_nonneg, Int.toNat_natCast, Int.ofNat_lt, D.int.injEq, Option.some.injEq, Nat.zero_add, Nat.add_zero, bne_iff_ne, bne_eq_false_iff_eq, beq_iff_eq, beq_eq_false_iff_ne, gt_iff_lt, ne_eq, not_true_eq_false, not_false_eq_true, planIds, hasExt, cntFs, idxFs, clnFs, ovlFs, List.contains_cons, List.contains_nil, List.any_cons, List.any_nil, Nat.reduceBEq, Nat.reduceMul, Nat.reduceAdd, ↓reduceIte, hal, h0, h1, h2, h7, a2, Option.map_some, Option.map_none, dSlice, dBounds, boundN, t2, Int.natCast_zero, Int.le_refl, Int.toNat_zero, Nat.le_refl, and_self, Tryd.underlying43]
    clear hal h0 h1 h2 h7 a
    rintro a _ ⟨rfl, hal, h1, h2, h7, h8⟩
    refine wc_scut (fun a T => T = S3 ∧ a.length = 39 ∧ a[1]? = some (.nils) ∧ a[7]? = some (.int .i64 (0 : Nat)) ∧ a[8]? = some (d3)) ?_ ?_
    · rcases hx.pq.two with ⟨hz1, hx1⟩ | ⟨k', hz1, hx1⟩
      all_goals
        simp only at hz1
        rw [hz1] at h2 a3
        simp (maxSteps := 1000000) (disch := omega) only [push_cast, ↓wc_seq, ↓wc_block, ↓wc_scope, ↓wc_condL, ↓wc_region, ↓wr_cons, ↓wr_consgL, ↓wr_nil, ↓wo_pickL, ↓wo_callf, ↓wc_exit, ↓wc_ret, ↓wc_skip, ↓wc_wl, wo_some, wo_none, wo_ite, opQ_eq, seqQ_normal, seqQ_exit, seqQ_ret, blockQ_normal, blockQ_exit, blockQ_ret, iterQ_normal, iterQ_exit, iterQ_ret, retQ_normal, retQ_ret, retQ_exit, pickC_true, pickC_false, pickO_true, pickO_false, gstep_tt, gstep_ff, gstep_tf, gstep_ft, gstep_skip, int_bne, int_beq, decide_not, Nat.reduceAdd, Nat.reduceMul, Nat.reduceSub, Nat.reducePow, Nat.reduceLT, Nat.reduceLeDiff, Nat.reduceEqDiff, Int.reduceToNat, Int.reduceAdd, Int.reduceSub, Int.reduceNeg, Int.reduceMul, Int.reduceLT, Int.reduceLE, Int.reduceEq, le_max, ↓wo_build, ↓wo_buildSlice, evParts, ↓reduceIte, planIds, hasExt, cntFs, idxFs, clnFs, ovlFs, List.contains_cons, List.contains_nil, List.any_cons, List.any_nil, Nat.reduceBEq, setC, List.length_set, decide_eq_true_eq, decide_eq_false_iff_not, true_implies, false_implies, forall_const, reduceCtorEq, eq_self, Int.natCast_nonneg, Int.toNat_natCast, Int.ofNat_lt, D.int.injEq, Option.some.injEq, Nat.zero_add, Nat.add_zero, bne_iff_ne, bne_eq_false_iff_eq, beq_iff_eq, beq_eq_false_iff_ne, gt_iff_lt, ne_eq, not_true_eq_false, not_false_eq_true, planIds, hasExt, cntFs, idxFs, clnFs, ovlFs, List.contains_cons, List.contains_nil, List.any_cons, List.any_nil, Nat.reduceBEq, Nat.reduceMul, Nat.reduceAdd, ↓reduceIte, hal, h1, h2, h7, h8, a3]
    clear hal h1 h2 h7 h8 a
    rintro a _ ⟨rfl, hal, h1, h7, h8⟩
    simp (maxSteps := 1000000) (disch := omega) only [push_cast, ↓wc_seq, ↓wc_block, ↓wc_scope, ↓wc_condL, ↓wc_region, ↓wr_cons, ↓wr_consgL, ↓wr_nil, ↓wo_pickL, ↓wo_callf, ↓wc_exit, ↓wc_ret, ↓wc_skip, ↓wc_wl, wo_some, wo_none, wo_ite, opQ_eq, seqQ_normal, seqQ_exit, seqQ_ret, blockQ_normal, blockQ_exit, blockQ_ret, iterQ_normal, iterQ_exit, iterQ_ret, retQ_normal, retQ_ret, retQ_exit, pickC_true, pickC_false, pickO_true, pickO_false, gstep_tt, gstep_ff, gstep_tf, gstep_ft, gstep_skip, int_bne, int_beq, decide_not, Nat.reduceAdd, Nat.reduceMul, Nat.reduceSub, Nat.reducePow, Nat.reduceLT, Nat.reduceLeDiff, Nat.reduceEqDiff, Int.reduceToNat, Int.reduceAdd, Int.reduceSub, Int.reduceNeg, Int.reduceMul, Int.reduceLT, Int.reduceLE, Int.reduceEq, le_max, ↓wo_build, ↓wo_buildSlice, evParts, ↓reduceIte, planIds, hasExt, cntFs, idxFs, clnFs, ovlFs, List.contains_cons, List.contains_nil, List.any_cons, List.any_nil, Nat.reduceBEq, setC, List.length_set, decide_eq_true_eq, decide_eq_false_iff_not, true_implies, false_implies, forall_const, reduceCtorEq, eq_self, Int.natCast_nonneg, Int.toNat_natCast, Int.ofNat_lt, D.int.injEq, Option.some.injEq, Nat.zero_add, Nat.add_zero, bne_iff_ne, bne_eq_false_iff_eq, beq_iff_eq, beq_eq_false_iff_ne, gt_iff_lt, ne_eq, not_true_eq_false, not_false_eq_true, planIds, hasExt, cntFs, idxFs, clnFs, ovlFs, List.contains_cons, List.contains_nil, List.any_cons, List.any_nil, Nat.reduceBEq, Nat.reduceMul, Nat.reduceAdd, ↓reduceIte, hal, h1, h7, h8, a5, Option.map_some, Option.map_none, dSlice, dBounds, boundN, t2, Int.natCast_zero, Int.le_refl, Int.toNat_zero, Nat.le_refl, and_self, Tryd.underlying43, Tryd.f47]
    exact ⟨_, _, (List.take_append_drop 0 _).symm, g6, k5, hv1, hv2⟩
  · have hq3 := k3 _ _ hq
    simp only [takeD, dropD] at a2 a5
    refine wc_scut (fun a T => T = S2 ∧ a.length = 39 ∧ a[1]? = some (.os q 0 o.length false) ∧ a[2]? = some (x) ∧ a[7]? = some (.int .i64 k) ∧ a[8]? = some (d2)) ?_ ?_
    · simp (maxSteps := 1000000) (disch := omega) only [push_cast, ↓wc_seq, ↓wc_block, ↓wc_scope, ↓wc_condL, ↓wc_region, ↓wr_cons, ↓wr_consgL, ↓wr_nil, ↓wo_pickL, ↓wo_callf, ↓wc_exit, ↓wc_ret, ↓wc_skip, ↓wc_wl, wo_some, wo_none, wo_ite, opQ_eq, seqQ_normal, seqQ_exit, seqQ_ret, blockQ_normal, blockQ_exit, blockQ_ret, iterQ_normal, iterQ_exit, iterQ_ret, retQ_normal, retQ_ret, retQ_exit, pickC_true, pickC_false, pickO_true, pickO_false, gstep_tt, gstep_ff, gstep_tf, gstep_ft, gstep_skip, int_bne, int_beq, decide_not, Nat.reduceAdd, Nat.reduceMul, Nat.reduceSub, Nat.reducePow, Nat.reduceLT, Nat.reduceLeDiff, Nat.reduceEqDiff, Int.reduceToNat, Int.reduceAdd, Int.reduceSub, Int.reduceNeg, Int.reduceMul, Int.reduceLT, Int.reduceLE, Int.reduceEq, le_max, ↓wo_build, ↓wo_buildSlice, evParts, ↓reduceIte, planIds, hasExt, cntFs, idxFs, clnFs, ovlFs, List.contains_cons, List.contains_nil, List.any_cons, List.any_nil, Nat.reduceBEq, setC, List.length_set, decide_eq_true_eq, decide_eq_false_iff_not, true_implies, false_implies, forall_const, reduceCtorEq, eq_self, Int.natCast_nonneg, Int.toNat_natCast, Int.ofNat_lt, D.int.injEq, Option.some.injEq, Nat.zero_add, Nat.add_zero, bne_iff_ne, bne_eq_false_iff_eq, beq_iff_eq, beq_eq_false_iff_ne, gt_iff_lt, ne_eq, not_true_eq_false, not_false_eq_true, planIds, hasExt, cntFs, idxFs, clnFs, ovlFs, List.contains_cons, List.contains_nil, List.any_cons, List.any_nil, Nat.reduceBEq, Nat.reduceMul, Nat.reduceAdd, ↓reduceIte, hal, h0, h1, h2, h7, hq, hk, a2, Option.map_some, Option.map_none, dSlice, dBounds, boundN, t2, Int.natCast_zero, Nat.zero_le, Bool.false_and, Nat.lt_irrefl, and_false, Nat.sub_zero, Bool.not_false, Bool.or_true, and_self, Tryd.underlying43]
    clear hal h0 h1 h2 h7 a
    rintro a _ ⟨rfl, hal, h1, h2, h7, h8⟩
    refine wc_scut (fun a T => T = S3 ∧ a.length = 39 ∧ a[1]? = some (.os q 0 o.length false) ∧ a[7]? = some (.int .i64 k) ∧ a[8]? = some (d3)) ?_ ?_
    · rcases hx.pq.two with ⟨hz1, hx1⟩ | ⟨k', hz1, hx1⟩
      all_goals
        simp only at hz1
        rw [hz1] at h2 a3
        simp (maxSteps := 1000000) (disch := omega) only [push_cast, ↓wc_seq, ↓wc_block, ↓wc_scope, ↓wc_condL, ↓wc_region, ↓wr_cons, ↓wr_consgL, ↓wr_nil, ↓wo_pickL, ↓wo_callf, ↓wc_exit, ↓wc_ret, ↓wc_skip, ↓wc_wl, wo_some, wo_none, wo_ite, opQ_eq, seqQ_normal, seqQ_exit, seqQ_ret, blockQ_normal, blockQ_exit, blockQ_ret, iterQ_normal, iterQ_exit, iterQ_ret, retQ_normal, retQ_ret, retQ_exit, pickC_true, pickC_false, pickO_true, pickO_false, gstep_tt, gstep_ff, gstep_tf, gstep_ft, gstep_skip, int_bne, int_beq, decide_not, Nat.reduceAdd, Nat.reduceMul, Nat.reduceSub, Nat.reducePow, Nat.reduceLT, Nat.reduceLeDiff, Nat.reduceEqDiff, Int.reduceToNat, Int.reduceAdd, Int.reduceSub, Int.reduceNeg, Int.reduceMul, Int.reduceLT, Int.reduceLE, Int.reduceEq, le_max, ↓wo_build, ↓wo_buildSlice, evParts, ↓reduceIte, planIds, hasExt, cntFs, idxFs, clnFs, ovlFs, List.contains_cons, List.contains_nil, List.any_cons, List.any_nil, Nat.reduceBEq, setC, List.length_set, decide_eq_true_eq, decide_eq_false_iff_not, true_implies, false_implies, forall_const, reduceCtorEq, eq_self, Int.natCast_nonneg, Int.toNat_natCast, Int.ofNat_lt, D.int.injEq, Option.some.injEq, Nat.zero_add, Nat.add_zero, bne_iff_ne, bne_eq_false_iff_eq, beq_iff_eq, beq_eq_false_iff_ne, gt_iff_lt, ne_eq, not_true_eq_false, not_false_eq_true, planIds, hasExt, cntFs, idxFs, clnFs, ovlFs, List.contains_cons, List.contains_nil, List.any_cons, List.any_nil, Nat.reduceBEq, Nat.reduceMul, Nat.reduceAdd, ↓reduceIte, hal, h1, h2, h7, h8, a3]
    clear hal h1 h2 h7 h8 a
    rintro a _ ⟨rfl, hal, h1, h7, h8⟩
    by_cases g : o.length = k ∧ 0 < k
    · rw [if_pos g] at a5
      replace g := eq_true g
      simp (maxSteps := 1000000) (disch := omega) only [push_cast, ↓wc_seq, ↓wc_block, ↓wc_scope, ↓wc_condL, ↓wc_region, ↓wr_cons, ↓wr_consgL, ↓wr_nil, ↓wo_pickL, ↓wo_callf, ↓wc_exit, ↓wc_ret, ↓wc_skip, ↓wc_wl, wo_some, wo_none, wo_ite, opQ_eq, seqQ_normal, seqQ_exit, seqQ_ret, blockQ_normal, blockQ_exit, blockQ_ret, iterQ_normal, iterQ_exit, iterQ_ret, retQ_normal, retQ_ret, retQ_exit, pickC_true, pickC_false, pickO_true, pickO_false, gstep_tt, gstep_ff, gstep_tf, gstep_ft, gstep_skip, int_bne, int_beq, decide_not, Nat.reduceAdd, Nat.reduceMul, Nat.reduceSub, Nat.reducePow, Nat.reduceLT, Nat.reduceLeDiff, Nat.reduceEqDiff, Int.reduceToNat, Int.reduceAdd, Int.reduceSub, Int.reduceNeg, Int.reduceMul, Int.reduceLT, Int.reduceLE, Int.reduceEq, le_max, ↓wo_build, ↓wo_buildSlice, evParts, ↓reduceIte, planIds, hasExt, cntFs, idxFs, clnFs, ovlFs, List.contains_cons, List.contains_nil, List.any_cons, List.any_nil, Nat.reduceBEq, setC, List.length_set, decide_eq_true_eq, decide_eq_false_iff_not, true_implies, false_implies, forall_const, reduceCtorEq, eq_self, Int.natCast_nonneg, Int.toNat_natCast, Int.ofNat_lt, D.int.injEq, Option.some.injEq, Nat.zero_add, Nat.add_zero, bne_iff_ne, bne_eq_false_iff_eq, beq_iff_eq, beq_eq_false_iff_ne, gt_iff_lt, ne_eq, not_true_eq_false, not_false_eq_true, planIds, hasExt, cntFs, idxFs, clnFs, ovlFs, List.contains_cons, List.contains_nil, List.any_cons, List.any_nil, Nat.reduceBEq, Nat.reduceMul, Nat.reduceAdd, ↓reduceIte, hal, h1, h7, h8, hq3, hk, g, a5, Option.map_some, Option.map_none, dSlice, dBounds, boundN, t2, Nat.le_refl, Bool.false_and, Nat.zero_add, and_self, Tryd.underlying43, Tryd.f47]
      exact ⟨_, _, (List.take_append_drop k o).symm, g6, k5, hv1, hv2⟩
    · rw [if_neg g] at a5
      simp (maxSteps := 1000000) (disch := omega) only [push_cast, ↓wc_seq, ↓wc_block, ↓wc_scope, ↓wc_condL, ↓wc_region, ↓wr_cons, ↓wr_consgL, ↓wr_nil, ↓wo_pickL, ↓wo_callf, ↓wc_exit, ↓wc_ret, ↓wc_skip, ↓wc_wl, wo_some, wo_none, wo_ite, opQ_eq, seqQ_normal, seqQ_exit, seqQ_ret, blockQ_normal, blockQ_exit, blockQ_ret, iterQ_normal, iterQ_exit, iterQ_ret, retQ_normal, retQ_ret, retQ_exit, pickC_true, pickC_false, pickO_true, pickO_false, gstep_tt, gstep_ff, gstep_tf, gstep_ft, gstep_skip, int_bne, int_beq, decide_not, Nat.reduceAdd, Nat.reduceMul, Nat.reduceSub, Nat.reducePow, Nat.reduceLT, Nat.reduceLeDiff, Nat.reduceEqDiff, Int.reduceToNat, Int.reduceAdd, Int.reduceSub, Int.reduceNeg, Int.reduceMul, Int.reduceLT, Int.reduceLE, Int.reduceEq, le_max, ↓wo_build, ↓wo_buildSlice, evParts, ↓reduceIte, planIds, hasExt, cntFs, idxFs, clnFs, ovlFs, List.contains_cons, List.contains_nil, List.any_cons, List.any_nil, Nat.reduceBEq, setC, List.length_set, decide_eq_true_eq, decide_eq_false_iff_not, true_implies, false_implies, forall_const, reduceCtorEq, eq_self, Int.natCast_nonneg, Int.toNat_natCast, Int.ofNat_lt, D.int.injEq, Option.some.injEq, Nat.zero_add, Nat.add_zero, bne_iff_ne, bne_eq_false_iff_eq, beq_iff_eq, beq_eq_false_iff_ne, gt_iff_lt, ne_eq, not_true_eq_false, not_false_eq_true, planIds, hasExt, cntFs, idxFs, clnFs, ovlFs, List.contains_cons, List.contains_nil, List.any_cons, List.any_nil, Nat.reduceBEq, Nat.reduceMul, Nat.reduceAdd, ↓reduceIte, hal, h1, h7, h8, hq3, hk, g, a5, Option.map_some, Option.map_none, dSlice, dBounds, boundN, t2, Nat.le_refl, Bool.false_and, Bool.not_false, Bool.or_true, Nat.zero_add, and_self, Tryd.underlying43, Tryd.f47]
      exact ⟨_, _, (List.take_append_drop k o).symm, g6, k5, hv1, hv2⟩

theorem PQ.src {S : List Ob} {d : D} {p : List Nat} (h : PQ S d p) : srcOf S 1 d = some (p.map fun a => [intV a]) := by
  rcases h with rfl | ⟨k, rfl, hk⟩
  · simp [srcOf]
  · have : ((p.map fun a => [intV a]).drop 0).take p.length = p.map fun a => [intV a] := by
      rw [List.drop_zero]; exact List.take_of_length_le (by simp)
    simp only [srcOf, hk, List.length_map, Nat.zero_add, Nat.le_refl, and_self, if_true, ↓reduceIte, this]
/-- A journey does not lie where the list of journeys lies. -/
theorem PJ.ne {T : List Ob} {segs : List Sgm} {out : D} {rs : List (D × List Nat)} (hg : GL 1 encP T out rs) (hr : ∀ z ∈ rs, PJ T segs z) {q : Nat} {p : List Nat} (hp : p ≠ []) (hq : T[q]? = some (.row 1 (p.map fun a => [intV a]))) : own out ≠ some q := by
  intro h
  rcases hg with ⟨rfl, rfl⟩ | ⟨k, rfl, hk⟩
  · cases h
  · cases h
    rw [hk] at hq
    injection hq with hq
    injection hq with _ hq
    rcases p with _ | ⟨u, p⟩
    · exact hp rfl
    rcases rs with _ | ⟨z, rs⟩
    · simp at hq
    simp only [List.map_cons, List.cons.injEq, and_true] at hq
    have h1 := (hr z (by simp)).pq
    rw [hq.1] at h1
    rcases h1 with h | ⟨_, h, _⟩ <;> cases h
set_option maxRecDepth 10000 in
theorem grow {T : List Ob} {segs : List Sgm} {out : D} {rs : List (D × List Nat)} {z : D × List Nat} {k : Nat} (hg : GL 1 encP T out rs) (hr : ∀ z ∈ rs, PJ T segs z) (hz : PJ T segs z) (hk : k < segs.length) (hl : z.2.length ≤ 50) (hrs : rs.length ≤ 60000) :
    ∃ k1 T1 k2 T2 d3 T3, dAppend Tryd.prog T 54 54 (.sl 1 [] true) z.1 = some (.os k1 0 z.2.length false, T1) ∧ dAppend Tryd.prog T1 54 54 (.os k1 0 z.2.length false) (.sl 1 [[intV k]] true) = some (.os k2 0 (z.2.length + 1) false, T2) ∧ dAppend Tryd.prog T2 43 43 out (.sl 1 [[.os k2 0 (z.2.length + 1) false]] true) = some (d3, T3) ∧
      GL 1 encP T3 d3 (rs ++ [(.os k2 0 (z.2.length + 1) false, z.2 ++ [k])]) ∧ (∀ w ∈ rs ++ [(.os k2 0 (z.2.length + 1) false, z.2 ++ [k])], PJ T3 segs w) ∧ (∀ j o, own out ≠ some j → T[j]? = some o → T3[j]? = some o) ∧ (∀ j, own d3 = some j → own out = some j ∨ T.length ≤ j) := by
  have t1 : elemT Tryd.prog 43 = some 54 := by kernel_rfl
  have t2 : sizeT Tryd.prog 54 = some 1 := by kernel_rfl
  have t3 : zeroT Tryd.prog 54 = some .nils := by kernel_rfl
  have t5 : bytesT Tryd.prog 54 ≤ 100000 := Nat.le_of_ble_eq_true (by kernel_rfl)
  have u1 : elemT Tryd.prog 54 = some 3 := by kernel_rfl
  have u2 : sizeT Tryd.prog 3 = some 1 := by kernel_rfl
  have u3 : zeroT Tryd.prog 3 = some (.int .i64 0) := by kernel_rfl
  have u5 : bytesT Tryd.prog 3 ≤ 100000 := Nat.le_of_ble_eq_true (by kernel_rfl)
  obtain ⟨d1, T1, a1, g1, l1, x1, w1, v1⟩ := app_src (enc := fun a : Nat => [intV a]) u1 u2 u3 rfl u5 (S := T) (d := .sl 1 [] true) (l := []) (.inl ⟨rfl, rfl⟩) hz.pq.src (by simp only [List.length_nil]; omega)
  obtain ⟨k1, rfl⟩ := v1 hz.non
  rw [List.nil_append] at a1 g1
  have hk1 : T.length ≤ k1 := by
    rcases w1 with h | ⟨j, h, h'⟩
    · cases h
    · cases h; exact h'
  replace x1 : ExtS T T1 := fun j o h => x1 j o (fun h => by cases h) h
  obtain ⟨d2, T2, a2, g2, l2, x2, w2, v2⟩ := app_src (enc := fun a : Nat => [intV a]) u1 u2 u3 rfl u5 (x := .sl 1 [[intV k]] true) (r := [k]) g1 (by simp [srcOf]) (by simp only [List.length_cons, List.length_nil]; omega)
  obtain ⟨k2, rfl⟩ := v2 (by simp)
  rw [List.length_append] at a2 g2
  simp only [List.length_cons, List.length_nil, Nat.zero_add, List.nil_append] at a2 g2
  have hk2 : T.length ≤ k2 := by
    rcases w2 with h | ⟨j, h, h'⟩
    · cases h; exact hk1
    · cases h; omega
  have hx2 : ExtS T T2 := fun j o h => x2 j o (fun h' => by cases h'; have := (List.getElem?_eq_some_iff.1 h).1; omega) (x1 j o h)
  have hrow : T2[k2]? = some (.row 1 ((z.2 ++ [k]).map fun a => [intV a])) := by
    rcases g2 with ⟨h, -⟩ | ⟨h, -⟩ | ⟨q, h, hq⟩
    · cases h
    · cases h
    · have h' : some k2 = some q := congrArg own h
      rw [Option.some.inj h']; exact hq
  have hg2 := hg.ext hx2
  have hr2 : ∀ z ∈ rs, PJ T2 segs z := fun z h => (hr z h).ext hx2
  obtain ⟨d3, T3, a3, g3, l3, x3, w3, -⟩ := app_src (enc := encP) t1 t2 t3 rfl t5 (x := .sl 1 [[.os k2 0 (z.2.length + 1) false]] true) (r := [(.os k2 0 (z.2.length + 1) false, z.2 ++ [k])]) (.inr hg2) (by simp [srcOf]) (by simp only [List.length_cons, List.length_nil]; omega)
  have keep : ∀ {q : Nat} {p : List Nat}, p ≠ [] → T2[q]? = some (.row 1 (p.map fun a => [intV a])) → T3[q]? = some (.row 1 (p.map fun a => [intV a])) := fun hp hq => x3 _ _ (PJ.ne hg2 hr2 hp hq) hq
  refine ⟨k1, T1, k2, T2, d3, T3, a1, a2, a3, ?_, fun w hw => ?_, fun j o h1 h2 => x3 j o h1 (hx2 j o h2), fun j h => ?_⟩
  · rcases g3 with ⟨-, h⟩ | h
    · simp at h
    · exact h
  · rcases List.mem_append.1 hw with h | h
    · refine ⟨?_, (hr2 w h).non, (hr2 w h).len, (hr2 w h).ind⟩
      rcases (hr2 w h).pq with h1 | ⟨q, h1, h2⟩
      · exact .inl h1
      · exact .inr ⟨q, h1, keep (hr2 w h).non h2⟩
    · obtain rfl : w = _ := by simpa using h
      refine ⟨.inr ⟨k2, by simp, keep (by simp) hrow⟩, by simp, by simp; omega, fun j hj => ?_⟩
      rcases List.mem_append.1 hj with h | h
      · exact hz.ind j h
      · obtain rfl : j = k := by simpa using h
        exact hk
  · rcases w3 with h' | ⟨j', h1, h2⟩
    · exact .inl (by rw [← h', h])
    · rw [h1] at h; cases h; exact .inr (by omega)
/-- The journeys that continue one. -/
def extL (l : List Cnn) (segs : List Sgm) (fr : ByteArray) (p : List Nat) : List (List Nat) := (List.range segs.length).flatMap fun i => if cand l segs fr p i = true then [p ++ [i]] else []
def extK (l : List Cnn) (segs : List Sgm) (fr : ByteArray) (p : List Nat) (k : Nat) : List (List Nat) := (List.range k).flatMap fun i => if cand l segs fr p i = true then [p ++ [i]] else []
theorem extK_succ {l segs fr p k} : extK l segs fr p (k + 1) = extK l segs fr p k ++ (if cand l segs fr p k = true then [p ++ [k]] else []) := by
  unfold extK
  rw [List.range_succ, List.flatMap_append]
  simp
theorem cand_fit {l : List Cnn} {segs : List Sgm} {fr : ByteArray} {p : List Nat} {m j k : Nat} {sj sk : Sgm} (hm : p.length = m + 1) (hj : p[m]? = some j) (hsj : segs[j]? = some sj) (hsk : segs[k]? = some sk) : cand l segs fr p k = (fitB l sj sk && !visB fr segs p sk.t) := by
  have e1 : ((stopsL fr segs p)[p.length]?).getD emp = sj.t := by
    rw [stopsL, hm, List.getElem?_cons_succ, List.getElem?_map, hj]
    simp [tAt, hsj]
  have e2 : lastFit l segs p sk = fitB l sj sk := by
    unfold lastFit
    rcases p with _ | ⟨u, p⟩
    · simp at hm
    rw [show (u :: p).length - 1 = m by omega, hj]
    dsimp only
    rw [hsj]
  have e3 : ((stopsL fr segs p).any fun x => sk.t.toList == x.toList) = visB fr segs p sk.t := by
    rw [stopsL, List.any_cons, List.any_map, visB, Bool.or_comm]
    congr 1
    · congr 1
      funext i
      exact BEq.comm
    · exact BEq.comm
  unfold cand
  rw [hsk]
  dsimp only
  rw [e1, e2, e3]
  cases hf : fitB l sj sk
  · simp
  · have : (sk.f.toList == sj.t.toList) = true := by
      unfold fitB at hf
      simp only [Bool.and_eq_true] at hf
      rw [BEq.comm]; exact hf.1.1
    simp [this]

set_option maxHeartbeats 16000000 in
set_option maxRecDepth 100000 in
theorem longer_d {n : Nat} {l : List Cnn} {x : Bool} {segs : List Sgm} {y : Bool} {fr : ByteArray} {dN : D} {ns : List (D × List Nat)} {S : List Ob} (hn : ns.length + segs.length + l.length + 300 ≤ n) (hll : l.length ≤ 1000) (hsl : segs.length ≤ 30) (near : ∀ s ∈ segs, Near s) (hg : GL 1 encP S dN ns) (hN : ∀ z ∈ ns, PJ S segs z) (hlen : ∀ z ∈ ns, z.2.length ≤ 50) (hnl : ns.length ≤ 1500) :
    WO (dcall E (n + 1) 48 [.sl 4 (l.map Cnn.enc) x, .sl 7 (segs.map Sgm.enc) y, .str fr, dN] S) fun r T => ∃ rs, GL 1 encP T r rs ∧ (∀ z ∈ rs, PJ T segs z) ∧ ExtS S T ∧ rs.map (·.2) = (ns.map (·.2)).flatMap (extL l segs fr) ∧ rs.length ≤ 30 * ns.length := by
  have sge : ∀ s : Sgm, s.enc = [.str s.c, .int .i64 s.n, .int .i64 s.d, .str s.f, .str s.t, .int .i64 s.dep, .int .i64 s.arr] := fun _ => rfl
  refine wo_dcall Tryd.func48 rfl (by decide) rfl 75 rfl (fun a hal ha => ?_)
  have h0 : a[0]? = some (.sl 4 (l.map Cnn.enc) x) := ha 0 (by simp)
  have h1 : a[1]? = some (.sl 7 (segs.map Sgm.enc) y) := ha 1 (by simp)
  have h2 : a[2]? = some (.str fr) := ha 2 (by simp)
  have h3 : a[3]? = some (dN) := ha 3 (by simp)
  clear ha
  simp (maxSteps := 1000000) (disch := omega) only [push_cast, ↓wc_seq, ↓wc_block, ↓wc_scope, ↓wc_condL, ↓wc_region, ↓wr_cons, ↓wr_consgL, ↓wr_nil, ↓wo_pickL, ↓wo_callf, ↓wc_exit, ↓wc_ret, ↓wc_skip, ↓wc_wl, wo_some, wo_none, wo_ite, opQ_eq, seqQ_normal, seqQ_exit, seqQ_ret, blockQ_normal, blockQ_exit, blockQ_ret, iterQ_normal, iterQ_exit, iterQ_ret, retQ_normal, retQ_ret, retQ_exit, pickC_true, pickC_false, pickO_true, pickO_false, gstep_tt, gstep_ff, gstep_tf, gstep_ft, gstep_skip, int_bne, int_beq, decide_not, Nat.reduceAdd, Nat.reduceMul, Nat.reduceSub, Nat.reducePow, Nat.reduceLT, Nat.reduceLeDiff, Nat.reduceEqDiff, Int.reduceToNat, Int.reduceAdd, Int.reduceSub, Int.reduceNeg, Int.reduceMul, Int.reduceLT, Int.reduceLE, Int.reduceEq, le_max, ↓wo_build, ↓wo_buildSlice, evParts, ↓reduceIte, planIds, hasExt, cntFs, idxFs, clnFs, ovlFs, List.contains_cons, List.contains_nil, List.any_cons, List.any_nil, Nat.reduceBEq, setC, List.length_set, decide_eq_true_eq, decide_eq_false_iff_not, true_implies, false_implies, forall_const, reduceCtorEq, eq_self, Int.natCast_nonneg, Int.toNat_natCast, Int.ofNat_lt, D.int.injEq, Option.some.injEq, Nat.zero_add, Nat.add_zero, bne_iff_ne, bne_eq_false_iff_eq, beq_iff_eq, beq_eq_false_iff_ne, gt_iff_lt, ne_eq, not_true_eq_false, not_false_eq_true, planIds, hasExt, cntFs, idxFs, clnFs, ovlFs, List.contains_cons, List.contains_nil, List.any_cons, List.any_nil, Nat.reduceBEq, Nat.reduceMul, Nat.reduceAdd, ↓reduceIte, hal, h0, h1, h2, h3]
  refine wl_loop (fun i a T => ∃ (out : D) (rs : List (D × List Nat)), a.length = 75 ∧ a[0]? = some (.sl 4 (l.map Cnn.enc) x) ∧ a[1]? = some (.sl 7 (segs.map Sgm.enc) y) ∧ a[2]? = some (.str fr) ∧ a[3]? = some (dN) ∧ a[9]? = some (out) ∧ a[10]? = some (.int .i64 i) ∧ GL 1 encP T out rs ∧ (∀ z ∈ rs, PJ T segs z) ∧ ExtS S T ∧ (∀ j, own out = some j → S.length ≤ j) ∧ rs.map (·.2) = ((ns.take i).map (·.2)).flatMap (extL l segs fr) ∧ rs.length ≤ 30 * i) ns.length ?_ (by omega) ?_
  · simp (maxSteps := 1000000) (disch := omega) only [push_cast, ↓wc_seq, ↓wc_block, ↓wc_scope, ↓wc_condL, ↓wc_region, ↓wr_cons, ↓wr_consgL, ↓wr_nil, ↓wo_pickL, ↓wo_callf, ↓wc_exit, ↓wc_ret, ↓wc_skip, ↓wc_wl, wo_some, wo_none, wo_ite, opQ_eq, seqQ_normal, seqQ_exit, seqQ_ret, blockQ_normal, blockQ_exit, blockQ_ret, iterQ_normal, iterQ_exit, iterQ_ret, retQ_normal, retQ_ret, retQ_exit, pickC_true, pickC_false, pickO_true, pickO_false, gstep_tt, gstep_ff, gstep_tf, gstep_ft, gstep_skip, int_bne, int_beq, decide_not, Nat.reduceAdd, Nat.reduceMul, Nat.reduceSub, Nat.reducePow, Nat.reduceLT, Nat.reduceLeDiff, Nat.reduceEqDiff, Int.reduceToNat, Int.reduceAdd, Int.reduceSub, Int.reduceNeg, Int.reduceMul, Int.reduceLT, Int.reduceLE, Int.reduceEq, le_max, ↓wo_build, ↓wo_buildSlice, evParts, ↓reduceIte, planIds, hasExt, cntFs, idxFs, clnFs, ovlFs, List.contains_cons, List.contains_nil, List.any_cons, List.any_nil, Nat.reduceBEq, setC, List.length_set, decide_eq_true_eq, decide_eq_false_iff_not, true_implies, false_implies, forall_const, reduceCtorEq, eq_self, Int.natCast_nonneg, Int.toNat_natCast, Int.ofNat_lt, D.int.injEq, Option.some.injEq, Nat.zero_add, Nat.add_zero, bne_iff_ne, bne_eq_false_iff_eq, beq_iff_eq, beq_eq_false_iff_ne, gt_iff_lt, ne_eq, not_true_eq_false, not_false_eq_true, planIds, hasExt, cntFs, idxFs, clnFs, ovlFs, List.contains_cons, List.contains_nil, List.any_cons, List.any_nil, Nat.reduceBEq, Nat.reduceMul, Nat.reduceAdd, ↓reduceIte, hal, h0, h1, h2, h3, Int.natCast_zero]
    exact ⟨_, [], rfl, .inl ⟨rfl, rfl⟩, by simp, ExtS.refl, (fun j h => by cases h), rfl, by simp⟩
  clear hal h0 h1 h2 h3 a
  rintro i a T hi ⟨out, rs, hal, h0, h1, h2, h3, h9, h10, hgr, hpj, hx, hown, hrs, hrl⟩
  rcases Nat.lt_or_eq_of_le hi with hlt | rfl
  case inr =>
    rw [List.take_length] at hrs
    rcases hg with ⟨rfl, rfl⟩ | ⟨q, rfl, hq⟩
    · simp only [List.length_nil, Int.natCast_zero] at h10
      simp (maxSteps := 1000000) (disch := omega) only [push_cast, ↓wc_seq, ↓wc_block, ↓wc_scope, ↓wc_condL, ↓wc_region, ↓wr_cons, ↓wr_consgL, ↓wr_nil, ↓wo_pickL, ↓wo_callf, ↓wc_exit, ↓wc_ret, ↓wc_skip, ↓wc_wl, wo_some, wo_none, wo_ite, opQ_eq, seqQ_normal, seqQ_exit, seqQ_ret, blockQ_normal, blockQ_exit, blockQ_ret, iterQ_normal, iterQ_exit, iterQ_ret, retQ_normal, retQ_ret, retQ_exit, pickC_true, pickC_false, pickO_true, pickO_false, gstep_tt, gstep_ff, gstep_tf, gstep_ft, gstep_skip, int_bne, int_beq, decide_not, Nat.reduceAdd, Nat.reduceMul, Nat.reduceSub, Nat.reducePow, Nat.reduceLT, Nat.reduceLeDiff, Nat.reduceEqDiff, Int.reduceToNat, Int.reduceAdd, Int.reduceSub, Int.reduceNeg, Int.reduceMul, Int.reduceLT, Int.reduceLE, Int.reduceEq, le_max, ↓wo_build, ↓wo_buildSlice, evParts, ↓reduceIte, planIds, hasExt, cntFs, idxFs, clnFs, ovlFs, List.contains_cons, List.contains_nil, List.any_cons, List.any_nil, Nat.reduceBEq, setC, List.length_set, decide_eq_true_eq, decide_eq_false_iff_not, true_implies, false_implies, forall_const, reduceCtorEq, eq_self, Int.natCast_nonneg, Int.toNat_natCast, Int.ofNat_lt, D.int.injEq, Option.some.injEq, Nat.zero_add, Nat.add_zero, bne_iff_ne, bne_eq_false_iff_eq, beq_iff_eq, beq_eq_false_iff_ne, gt_iff_lt, ne_eq, not_true_eq_false, not_false_eq_true, planIds, hasExt, cntFs, idxFs, clnFs, ovlFs, List.contains_cons, List.contains_nil, List.any_cons, List.any_nil, Nat.reduceBEq, Nat.reduceMul, Nat.reduceAdd, ↓reduceIte, hal, h0, h1, h2, h3, h9, h10, Int.lt_irrefl, Tryd.f48]
      exact ⟨rs, hgr, hpj, hx, hrs, hrl⟩
    · simp (maxSteps := 1000000) (disch := omega) only [push_cast, ↓wc_seq, ↓wc_block, ↓wc_scope, ↓wc_condL, ↓wc_region, ↓wr_cons, ↓wr_consgL, ↓wr_nil, ↓wo_pickL, ↓wo_callf, ↓wc_exit, ↓wc_ret, ↓wc_skip, ↓wc_wl, wo_some, wo_none, wo_ite, opQ_eq, seqQ_normal, seqQ_exit, seqQ_ret, blockQ_normal, blockQ_exit, blockQ_ret, iterQ_normal, iterQ_exit, iterQ_ret, retQ_normal, retQ_ret, retQ_exit, pickC_true, pickC_false, pickO_true, pickO_false, gstep_tt, gstep_ff, gstep_tf, gstep_ft, gstep_skip, int_bne, int_beq, decide_not, Nat.reduceAdd, Nat.reduceMul, Nat.reduceSub, Nat.reducePow, Nat.reduceLT, Nat.reduceLeDiff, Nat.reduceEqDiff, Int.reduceToNat, Int.reduceAdd, Int.reduceSub, Int.reduceNeg, Int.reduceMul, Int.reduceLT, Int.reduceLE, Int.reduceEq, le_max, ↓wo_build, ↓wo_buildSlice, evParts, ↓reduceIte, planIds, hasExt, cntFs, idxFs, clnFs, ovlFs, List.contains_cons, List.contains_nil, List.any_cons, List.any_nil, Nat.reduceBEq, setC, List.length_set, decide_eq_true_eq, decide_eq_false_iff_not, true_implies, false_implies, forall_const, reduceCtorEq, eq_self, Int.natCast_nonneg, Int.toNat_natCast, Int.ofNat_lt, D.int.injEq, Option.some.injEq, Nat.zero_add, Nat.add_zero, bne_iff_ne, bne_eq_false_iff_eq, beq_iff_eq, beq_eq_false_iff_ne, gt_iff_lt, ne_eq, not_true_eq_false, not_false_eq_true, planIds, hasExt, cntFs, idxFs, clnFs, ovlFs, List.contains_cons, List.contains_nil, List.any_cons, List.any_nil, Nat.reduceBEq, Nat.reduceMul, Nat.reduceAdd, ↓reduceIte, hal, h0, h1, h2, h3, h9, h10, Nat.lt_irrefl, Tryd.f48]
      exact ⟨rs, hgr, hpj, hx, hrs, hrl⟩
  rcases hg with ⟨rfl, rfl⟩ | ⟨q, rfl, hq⟩
  · simp at hlt
  refine wc_scut (fun a T' => T' = T ∧ a.length = 75 ∧ a[0]? = some (.sl 4 (l.map Cnn.enc) x) ∧ a[1]? = some (.sl 7 (segs.map Sgm.enc) y) ∧ a[2]? = some (.str fr) ∧ a[3]? = some (.os q 0 ns.length false) ∧ a[9]? = some (out) ∧ a[10]? = some (.int .i64 i)) ?_ ?_
  · simp (maxSteps := 1000000) (disch := omega) only [push_cast, ↓wc_seq, ↓wc_block, ↓wc_scope, ↓wc_condL, ↓wc_region, ↓wr_cons, ↓wr_consgL, ↓wr_nil, ↓wo_pickL, ↓wo_callf, ↓wc_exit, ↓wc_ret, ↓wc_skip, ↓wc_wl, wo_some, wo_none, wo_ite, opQ_eq, seqQ_normal, seqQ_exit, seqQ_ret, blockQ_normal, blockQ_exit, blockQ_ret, iterQ_normal, iterQ_exit, iterQ_ret, retQ_normal, retQ_ret, retQ_exit, pickC_true, pickC_false, pickO_true, pickO_false, gstep_tt, gstep_ff, gstep_tf, gstep_ft, gstep_skip, int_bne, int_beq, decide_not, Nat.reduceAdd, Nat.reduceMul, Nat.reduceSub, Nat.reducePow, Nat.reduceLT, Nat.reduceLeDiff, Nat.reduceEqDiff, Int.reduceToNat, Int.reduceAdd, Int.reduceSub, Int.reduceNeg, Int.reduceMul, Int.reduceLT, Int.reduceLE, Int.reduceEq, le_max, ↓wo_build, ↓wo_buildSlice, evParts, ↓reduceIte, planIds, hasExt, cntFs, idxFs, clnFs, ovlFs, List.contains_cons, List.contains_nil, List.any_cons, List.any_nil, Nat.reduceBEq, setC, List.length_set, decide_eq_true_eq, decide_eq_false_iff_not, true_implies, false_implies, forall_const, reduceCtorEq, eq_self, Int.natCast_nonneg, Int.toNat_natCast, Int.ofNat_lt, D.int.injEq, Option.some.injEq, Nat.zero_add, Nat.add_zero, bne_iff_ne, bne_eq_false_iff_eq, beq_iff_eq, beq_eq_false_iff_ne, gt_iff_lt, ne_eq, not_true_eq_false, not_false_eq_true, planIds, hasExt, cntFs, idxFs, clnFs, ovlFs, List.contains_cons, List.contains_nil, List.any_cons, List.any_nil, Nat.reduceBEq, Nat.reduceMul, Nat.reduceAdd, ↓reduceIte, hal, h0, h1, h2, h3, h9, h10, hlt]
  clear hal h0 h1 h2 h3 h9 h10 a
  rintro a T' ⟨rfl, hal, h0, h1, h2, h3, h9, h10⟩
  rw [wc_seq, wc_block]
  obtain ⟨z, hz⟩ : ∃ z, ns[i]? = some z := ⟨ns[i], by simp⟩
  have pz := hN z (List.mem_of_getElem? hz)
  have zl := hlen z (List.mem_of_getElem? hz)
  obtain ⟨m, hm⟩ : ∃ m, z.2.length = m + 1 := ⟨z.2.length - 1, by have := List.length_pos_iff.2 pz.non; omega⟩
  obtain ⟨j, hj⟩ : ∃ j, z.2[m]? = some j := ⟨z.2[m]'(by omega), by simp⟩
  have hjl := pz.ind j (List.mem_of_getElem? hj)
  obtain ⟨sl, hsj⟩ : ∃ s, segs[j]? = some s := ⟨segs[j], by simp⟩
  have hml : m < z.2.length := by omega
  have w1 : IntKind.i64.wrap ((z.2.length : Int) - 1) = (m : Int) := by rw [wrap_ok (by omega) (by omega)]; omega
  have w2 : IntKind.i64.wrap ((i : Int) + 1) = (i : Int) + 1 := wrap_ok (by omega) (by omega)
  obtain ⟨b, hb⟩ : ∃ b, b = T'.length := ⟨_, rfl⟩
  have hqT := hx _ _ hq
  refine wc_scut (fun a T => a.length = 75 ∧ a[0]? = some (.sl 4 (l.map Cnn.enc) x) ∧ a[1]? = some (.sl 7 (segs.map Sgm.enc) y) ∧ a[2]? = some (.str fr) ∧ a[3]? = some (.os q 0 ns.length false) ∧ a[9]? = some (out) ∧ a[10]? = some (.int .i64 i) ∧ a[11]? = some (.loc b 0 0) ∧ T = T' ++ [.row 7 [sl.enc]]) ?_ ?_
  · rw [hb, sge]
    rcases pz.pq.two with ⟨hz1, hx1⟩ | ⟨k', hz1, hx1⟩
    · simp (maxSteps := 1000000) (disch := omega) only [push_cast, ↓wc_seq, ↓wc_block, ↓wc_scope, ↓wc_condL, ↓wc_region, ↓wr_cons, ↓wr_consgL, ↓wr_nil, ↓wo_pickL, ↓wo_callf, ↓wc_exit, ↓wc_ret, ↓wc_skip, ↓wc_wl, wo_some, wo_none, wo_ite, opQ_eq, seqQ_normal, seqQ_exit, seqQ_ret, blockQ_normal, blockQ_exit, blockQ_ret, iterQ_normal, iterQ_exit, iterQ_ret, retQ_normal, retQ_ret, retQ_exit, pickC_true, pickC_false, pickO_true, pickO_false, gstep_tt, gstep_ff, gstep_tf, gstep_ft, gstep_skip, int_bne, int_beq, decide_not, Nat.reduceAdd, Nat.reduceMul, Nat.reduceSub, Nat.reducePow, Nat.reduceLT, Nat.reduceLeDiff, Nat.reduceEqDiff, Int.reduceToNat, Int.reduceAdd, Int.reduceSub, Int.reduceNeg, Int.reduceMul, Int.reduceLT, Int.reduceLE, Int.reduceEq, le_max, ↓wo_build, ↓wo_buildSlice, evParts, ↓reduceIte, planIds, hasExt, cntFs, idxFs, clnFs, ovlFs, List.contains_cons, List.contains_nil, List.any_cons, List.any_nil, Nat.reduceBEq, setC, List.length_set, decide_eq_true_eq, decide_eq_false_iff_not, true_implies, false_implies, forall_const, reduceCtorEq, eq_self, Int.natCast_nonneg, Int.toNat_natCast, Int.ofNat_lt, D.int.injEq, Option.some.injEq, Nat.zero_add, Nat.add_zero, bne_iff_ne, bne_eq_false_iff_eq, beq_iff_eq, beq_eq_false_iff_ne, gt_iff_lt, ne_eq, not_true_eq_false, not_false_eq_true, planIds, hasExt, cntFs, idxFs, clnFs, ovlFs, List.contains_cons, List.contains_nil, List.any_cons, List.any_nil, Nat.reduceBEq, Nat.reduceMul, Nat.reduceAdd, ↓reduceIte, hal, h0, h1, h2, h3, h9, h10, hlt, hqT, List.length_map, List.getElem?_map, hz, hz1, hml, hj, hjl, hsj, sge, w1, set_end, get_end]
    · replace hx1 := hx _ _ hx1
      simp (maxSteps := 1000000) (disch := omega) only [push_cast, ↓wc_seq, ↓wc_block, ↓wc_scope, ↓wc_condL, ↓wc_region, ↓wr_cons, ↓wr_consgL, ↓wr_nil, ↓wo_pickL, ↓wo_callf, ↓wc_exit, ↓wc_ret, ↓wc_skip, ↓wc_wl, wo_some, wo_none, wo_ite, opQ_eq, seqQ_normal, seqQ_exit, seqQ_ret, blockQ_normal, blockQ_exit, blockQ_ret, iterQ_normal, iterQ_exit, iterQ_ret, retQ_normal, retQ_ret, retQ_exit, pickC_true, pickC_false, pickO_true, pickO_false, gstep_tt, gstep_ff, gstep_tf, gstep_ft, gstep_skip, int_bne, int_beq, decide_not, Nat.reduceAdd, Nat.reduceMul, Nat.reduceSub, Nat.reducePow, Nat.reduceLT, Nat.reduceLeDiff, Nat.reduceEqDiff, Int.reduceToNat, Int.reduceAdd, Int.reduceSub, Int.reduceNeg, Int.reduceMul, Int.reduceLT, Int.reduceLE, Int.reduceEq, le_max, ↓wo_build, ↓wo_buildSlice, evParts, ↓reduceIte, planIds, hasExt, cntFs, idxFs, clnFs, ovlFs, List.contains_cons, List.contains_nil, List.any_cons, List.any_nil, Nat.reduceBEq, setC, List.length_set, decide_eq_true_eq, decide_eq_false_iff_not, true_implies, false_implies, forall_const, reduceCtorEq, eq_self, Int.natCast_nonneg, Int.toNat_natCast, Int.ofNat_lt, D.int.injEq, Option.some.injEq, Nat.zero_add, Nat.add_zero, bne_iff_ne, bne_eq_false_iff_eq, beq_iff_eq, beq_eq_false_iff_ne, gt_iff_lt, ne_eq, not_true_eq_false, not_false_eq_true, planIds, hasExt, cntFs, idxFs, clnFs, ovlFs, List.contains_cons, List.contains_nil, List.any_cons, List.any_nil, Nat.reduceBEq, Nat.reduceMul, Nat.reduceAdd, ↓reduceIte, hal, h0, h1, h2, h3, h9, h10, hlt, hqT, hx1, List.length_map, List.getElem?_map, hz, hz1, hml, hj, hjl, hsj, sge, w1, set_end, get_end]
  clear hal h0 h1 h2 h3 h9 h10 a
  rintro a T ⟨hal, h0, h1, h2, h3, h9, h10, h11, hT⟩
  have kb : T[b]? = some (.row 7 [sl.enc]) := by rw [hT, hb]; exact get_end
  have hx' : ExtS T' T := by rw [hT]; exact ExtS.refl.push _
  replace hgr := hgr.ext hx'
  replace hpj := fun z h => (hpj z h).ext hx'
  replace hx := hx.trans hx'
  clear hT hb hqT hx' T'
  simp (maxSteps := 1000000) (disch := omega) only [push_cast, ↓wc_seq, ↓wc_block, ↓wc_scope, ↓wc_condL, ↓wc_region, ↓wr_cons, ↓wr_consgL, ↓wr_nil, ↓wo_pickL, ↓wo_callf, ↓wc_exit, ↓wc_ret, ↓wc_skip, ↓wc_wl, wo_some, wo_none, wo_ite, opQ_eq, seqQ_normal, seqQ_exit, seqQ_ret, blockQ_normal, blockQ_exit, blockQ_ret, iterQ_normal, iterQ_exit, iterQ_ret, retQ_normal, retQ_ret, retQ_exit, pickC_true, pickC_false, pickO_true, pickO_false, gstep_tt, gstep_ff, gstep_tf, gstep_ft, gstep_skip, int_bne, int_beq, decide_not, Nat.reduceAdd, Nat.reduceMul, Nat.reduceSub, Nat.reducePow, Nat.reduceLT, Nat.reduceLeDiff, Nat.reduceEqDiff, Int.reduceToNat, Int.reduceAdd, Int.reduceSub, Int.reduceNeg, Int.reduceMul, Int.reduceLT, Int.reduceLE, Int.reduceEq, le_max, ↓wo_build, ↓wo_buildSlice, evParts, ↓reduceIte, planIds, hasExt, cntFs, idxFs, clnFs, ovlFs, List.contains_cons, List.contains_nil, List.any_cons, List.any_nil, Nat.reduceBEq, setC, List.length_set, decide_eq_true_eq, decide_eq_false_iff_not, true_implies, false_implies, forall_const, reduceCtorEq, eq_self, Int.natCast_nonneg, Int.toNat_natCast, Int.ofNat_lt, D.int.injEq, Option.some.injEq, Nat.zero_add, Nat.add_zero, bne_iff_ne, bne_eq_false_iff_eq, beq_iff_eq, beq_eq_false_iff_ne, gt_iff_lt, ne_eq, not_true_eq_false, not_false_eq_true, planIds, hasExt, cntFs, idxFs, clnFs, ovlFs, List.contains_cons, List.contains_nil, List.any_cons, List.any_nil, Nat.reduceBEq, Nat.reduceMul, Nat.reduceAdd, ↓reduceIte, hal, h0, h1, h2, h3, h9, h10, h11]
  refine wl_loop (fun k a T => ∃ (out : D) (rs : List (D × List Nat)), a.length = 75 ∧ a[0]? = some (.sl 4 (l.map Cnn.enc) x) ∧ a[1]? = some (.sl 7 (segs.map Sgm.enc) y) ∧ a[2]? = some (.str fr) ∧ a[3]? = some (.os q 0 ns.length false) ∧ a[9]? = some (out) ∧ a[10]? = some (.int .i64 i) ∧ a[11]? = some (.loc b 0 0) ∧ a[12]? = some (.int .i64 k) ∧ GL 1 encP T out rs ∧ (∀ z ∈ rs, PJ T segs z) ∧ ExtS S T ∧ (∀ j, own out = some j → S.length ≤ j) ∧ T[b]? = some (.row 7 [sl.enc]) ∧ rs.map (·.2) = ((ns.take i).map (·.2)).flatMap (extL l segs fr) ++ extK l segs fr z.2 k ∧ rs.length ≤ 30 * i + k) segs.length ?_ (by omega) ?_
  · simp (maxSteps := 1000000) (disch := omega) only [push_cast, ↓wc_seq, ↓wc_block, ↓wc_scope, ↓wc_condL, ↓wc_region, ↓wr_cons, ↓wr_consgL, ↓wr_nil, ↓wo_pickL, ↓wo_callf, ↓wc_exit, ↓wc_ret, ↓wc_skip, ↓wc_wl, wo_some, wo_none, wo_ite, opQ_eq, seqQ_normal, seqQ_exit, seqQ_ret, blockQ_normal, blockQ_exit, blockQ_ret, iterQ_normal, iterQ_exit, iterQ_ret, retQ_normal, retQ_ret, retQ_exit, pickC_true, pickC_false, pickO_true, pickO_false, gstep_tt, gstep_ff, gstep_tf, gstep_ft, gstep_skip, int_bne, int_beq, decide_not, Nat.reduceAdd, Nat.reduceMul, Nat.reduceSub, Nat.reducePow, Nat.reduceLT, Nat.reduceLeDiff, Nat.reduceEqDiff, Int.reduceToNat, Int.reduceAdd, Int.reduceSub, Int.reduceNeg, Int.reduceMul, Int.reduceLT, Int.reduceLE, Int.reduceEq, le_max, ↓wo_build, ↓wo_buildSlice, evParts, ↓reduceIte, planIds, hasExt, cntFs, idxFs, clnFs, ovlFs, List.contains_cons, List.contains_nil, List.any_cons, List.any_nil, Nat.reduceBEq, setC, List.length_set, decide_eq_true_eq, decide_eq_false_iff_not, true_implies, false_implies, forall_const, reduceCtorEq, eq_self, Int.natCast_nonneg, Int.toNat_natCast, Int.ofNat_lt, D.int.injEq, Option.some.injEq, Nat.zero_add, Nat.add_zero, bne_iff_ne, bne_eq_false_iff_eq, beq_iff_eq, beq_eq_false_iff_ne, gt_iff_lt, ne_eq, not_true_eq_false, not_false_eq_true, planIds, hasExt, cntFs, idxFs, clnFs, ovlFs, List.contains_cons, List.contains_nil, List.any_cons, List.any_nil, Nat.reduceBEq, Nat.reduceMul, Nat.reduceAdd, ↓reduceIte, hal, h0, h1, h2, h3, h9, h10, h11, Int.natCast_zero]
    exact ⟨_, rs, rfl, hgr, hpj, hx, hown, kb, by rw [hrs]; simp [extK], by omega⟩
  clear hal h0 h1 h2 h3 h9 h10 h11 a
  clear hgr hpj hx hown hrs hrl kb out rs
  rintro k a T hk ⟨out, rs, hal, h0, h1, h2, h3, h9, h10, h11, h12, hgr, hpj, hx, hown, kb, hrs, hrl⟩
  rcases Nat.lt_or_eq_of_le hk with hkl | rfl
  case inr =>
    simp (maxSteps := 1000000) (disch := omega) only [push_cast, ↓wc_seq, ↓wc_block, ↓wc_scope, ↓wc_condL, ↓wc_region, ↓wr_cons, ↓wr_consgL, ↓wr_nil, ↓wo_pickL, ↓wo_callf, ↓wc_exit, ↓wc_ret, ↓wc_skip, ↓wc_wl, wo_some, wo_none, wo_ite, opQ_eq, seqQ_normal, seqQ_exit, seqQ_ret, blockQ_normal, blockQ_exit, blockQ_ret, iterQ_normal, iterQ_exit, iterQ_ret, retQ_normal, retQ_ret, retQ_exit, pickC_true, pickC_false, pickO_true, pickO_false, gstep_tt, gstep_ff, gstep_tf, gstep_ft, gstep_skip, int_bne, int_beq, decide_not, Nat.reduceAdd, Nat.reduceMul, Nat.reduceSub, Nat.reducePow, Nat.reduceLT, Nat.reduceLeDiff, Nat.reduceEqDiff, Int.reduceToNat, Int.reduceAdd, Int.reduceSub, Int.reduceNeg, Int.reduceMul, Int.reduceLT, Int.reduceLE, Int.reduceEq, le_max, ↓wo_build, ↓wo_buildSlice, evParts, ↓reduceIte, planIds, hasExt, cntFs, idxFs, clnFs, ovlFs, List.contains_cons, List.contains_nil, List.any_cons, List.any_nil, Nat.reduceBEq, setC, List.length_set, decide_eq_true_eq, decide_eq_false_iff_not, true_implies, false_implies, forall_const, reduceCtorEq, eq_self, Int.natCast_nonneg, Int.toNat_natCast, Int.ofNat_lt, D.int.injEq, Option.some.injEq, Nat.zero_add, Nat.add_zero, bne_iff_ne, bne_eq_false_iff_eq, beq_iff_eq, beq_eq_false_iff_ne, gt_iff_lt, ne_eq, not_true_eq_false, not_false_eq_true, planIds, hasExt, cntFs, idxFs, clnFs, ovlFs, List.contains_cons, List.contains_nil, List.any_cons, List.any_nil, Nat.reduceBEq, Nat.reduceMul, Nat.reduceAdd, ↓reduceIte, hal, h0, h1, h2, h3, h9, h10, h11, h12, List.length_map, Nat.lt_irrefl, w2, Int.natCast_add, Int.natCast_one]
    refine ⟨hlt, out, rs, rfl, hgr, hpj, hx, hown, ?_, by omega⟩
    rw [hrs, List.take_add_one, hz, Option.toList_some, List.map_append, List.flatMap_append]
    simp [extL, extK]
  have w3 : IntKind.i64.wrap ((k : Int) + 1) = (k : Int) + 1 := wrap_ok (by omega) (by omega)
  obtain ⟨sk, hsk⟩ : ∃ s, segs[k]? = some s := ⟨segs[k], by simp⟩
  have hqT := hx _ _ hq
  have pzT := pz.ext hx
  have cf := ref_Fits_c (n := n) (l := l) (x := x) (p := sl) (q := sk) hll (by omega) (near _ (List.mem_of_getElem? hsj)) (near _ (List.mem_of_getElem? hsk))
  have cv := visits_c (n := n) (y := y) (fr := fr) (t := sk.t) pzT.pq pz.ind (by omega) (by omega)
  have hc := cand_fit (fr := fr) (l := l) hm hj hsj hsk
  obtain ⟨k1, T1, k2, T2, d3, T3, a1, a2, a3, g3, p3, x3, o3⟩ := grow (k := k) hgr hpj pzT hkl zl (by omega)
  have hob : own out ≠ some b := fun h => by
    rcases hgr with ⟨rfl, -⟩ | ⟨q', rfl, hq'⟩
    · cases h
    · cases h
      rw [kb] at hq'
      injection hq' with hq'
      injection hq' with hq' _
      omega
  have hx3 : ExtS S T3 := fun j o h => x3 j o (fun h' => by have := hown j h'; have := (List.getElem?_eq_some_iff.1 h).1; omega) (hx j o h)
  have hTS : S.length ≤ T.length := by
    have := hx
    rcases Nat.lt_or_ge T.length S.length with h | h
    · have h2 := hx T.length _ (List.getElem?_eq_getElem h)
      have := (List.getElem?_eq_some_iff.1 h2).1
      omega
    · exact h
  have own3 : ∀ j, own d3 = some j → S.length ≤ j := fun j h => by
    rcases o3 j h with h | h
    · exact hown j h
    · omega
  have kb3 : T3[b]? = some (.row 7 [sl.enc]) := x3 b _ hob kb
  have hxk := extK_succ (l := l) (segs := segs) (fr := fr) (p := z.2) (k := k)
  rw [hc] at hxk
  clear hc
  rw [sge sl] at kb
  rw [sge sl, sge sk] at cf
  have skip : (if (fitB l sl sk && !visB fr segs z.2 sk.t) = true then [z.2 ++ [k]] else ([] : List (List Nat))) = [] → rs.map (·.2) = ((ns.take i).map (·.2)).flatMap (extL l segs fr) ++ extK l segs fr z.2 (k + 1) := fun h => by
    rw [hxk, h, List.append_nil, hrs]
  rcases pz.pq.two with ⟨hz1, -⟩ | ⟨k', hz1, -⟩
  all_goals
    rw [hz1] at cv a1
    cases e1 : fitB l sl sk
    · rw [e1] at cf
      simp (maxSteps := 1000000) (disch := omega) only [push_cast, ↓wc_seq, ↓wc_block, ↓wc_scope, ↓wc_condL, ↓wc_region, ↓wr_cons, ↓wr_consgL, ↓wr_nil, ↓wo_pickL, ↓wo_callf, ↓wc_exit, ↓wc_ret, ↓wc_skip, ↓wc_wl, wo_some, wo_none, wo_ite, opQ_eq, seqQ_normal, seqQ_exit, seqQ_ret, blockQ_normal, blockQ_exit, blockQ_ret, iterQ_normal, iterQ_exit, iterQ_ret, retQ_normal, retQ_ret, retQ_exit, pickC_true, pickC_false, pickO_true, pickO_false, gstep_tt, gstep_ff, gstep_tf, gstep_ft, gstep_skip, int_bne, int_beq, decide_not, Nat.reduceAdd, Nat.reduceMul, Nat.reduceSub, Nat.reducePow, Nat.reduceLT, Nat.reduceLeDiff, Nat.reduceEqDiff, Int.reduceToNat, Int.reduceAdd, Int.reduceSub, Int.reduceNeg, Int.reduceMul, Int.reduceLT, Int.reduceLE, Int.reduceEq, le_max, ↓wo_build, ↓wo_buildSlice, evParts, ↓reduceIte, planIds, hasExt, cntFs, idxFs, clnFs, ovlFs, List.contains_cons, List.contains_nil, List.any_cons, List.any_nil, Nat.reduceBEq, setC, List.length_set, decide_eq_true_eq, decide_eq_false_iff_not, true_implies, false_implies, forall_const, reduceCtorEq, eq_self, Int.natCast_nonneg, Int.toNat_natCast, Int.ofNat_lt, D.int.injEq, Option.some.injEq, Nat.zero_add, Nat.add_zero, bne_iff_ne, bne_eq_false_iff_eq, beq_iff_eq, beq_eq_false_iff_ne, gt_iff_lt, ne_eq, not_true_eq_false, not_false_eq_true, planIds, hasExt, cntFs, idxFs, clnFs, ovlFs, List.contains_cons, List.contains_nil, List.any_cons, List.any_nil, Nat.reduceBEq, Nat.reduceMul, Nat.reduceAdd, ↓reduceIte, hal, h0, h1, h2, h3, h9, h10, h11, h12, hkl, hlt, kb, hqT, List.length_map, List.getElem?_map, hsk, hz, hz1, sge, cf, w3, Int.natCast_add, Int.natCast_one]
      exact ⟨out, rs, rfl, hgr, hpj, hx, hown, skip (by rw [e1]; rfl), by omega⟩
    · rw [e1] at cf
      cases e2 : visB fr segs z.2 sk.t
      · rw [e2] at cv
        simp (maxSteps := 1000000) (disch := omega) only [push_cast, ↓wc_seq, ↓wc_block, ↓wc_scope, ↓wc_condL, ↓wc_region, ↓wr_cons, ↓wr_consgL, ↓wr_nil, ↓wo_pickL, ↓wo_callf, ↓wc_exit, ↓wc_ret, ↓wc_skip, ↓wc_wl, wo_some, wo_none, wo_ite, opQ_eq, seqQ_normal, seqQ_exit, seqQ_ret, blockQ_normal, blockQ_exit, blockQ_ret, iterQ_normal, iterQ_exit, iterQ_ret, retQ_normal, retQ_ret, retQ_exit, pickC_true, pickC_false, pickO_true, pickO_false, gstep_tt, gstep_ff, gstep_tf, gstep_ft, gstep_skip, int_bne, int_beq, decide_not, Nat.reduceAdd, Nat.reduceMul, Nat.reduceSub, Nat.reducePow, Nat.reduceLT, Nat.reduceLeDiff, Nat.reduceEqDiff, Int.reduceToNat, Int.reduceAdd, Int.reduceSub, Int.reduceNeg, Int.reduceMul, Int.reduceLT, Int.reduceLE, Int.reduceEq, le_max, ↓wo_build, ↓wo_buildSlice, evParts, ↓reduceIte, planIds, hasExt, cntFs, idxFs, clnFs, ovlFs, List.contains_cons, List.contains_nil, List.any_cons, List.any_nil, Nat.reduceBEq, setC, List.length_set, decide_eq_true_eq, decide_eq_false_iff_not, true_implies, false_implies, forall_const, reduceCtorEq, eq_self, Int.natCast_nonneg, Int.toNat_natCast, Int.ofNat_lt, D.int.injEq, Option.some.injEq, Nat.zero_add, Nat.add_zero, bne_iff_ne, bne_eq_false_iff_eq, beq_iff_eq, beq_eq_false_iff_ne, gt_iff_lt, ne_eq, not_true_eq_false, not_false_eq_true, planIds, hasExt, cntFs, idxFs, clnFs, ovlFs, List.contains_cons, List.contains_nil, List.any_cons, List.any_nil, Nat.reduceBEq, Nat.reduceMul, Nat.reduceAdd, ↓reduceIte, hal, h0, h1, h2, h3, h9, h10, h11, h12, hkl, hlt, kb, hqT, List.length_map, List.getElem?_map, hsk, hz, hz1, sge, cf, cv, a1, a2, a3, w3, Int.natCast_add, Int.natCast_one]
        refine ⟨d3, _, rfl, g3, p3, hx3, own3, kb3, ?_, by simp only [List.length_append, List.length_cons, List.length_nil]; omega⟩
        rw [List.map_append, hrs, hxk, e1, e2]
        simp
      · rw [e2] at cv
        simp (maxSteps := 1000000) (disch := omega) only [push_cast, ↓wc_seq, ↓wc_block, ↓wc_scope, ↓wc_condL, ↓wc_region, ↓wr_cons, ↓wr_consgL, ↓wr_nil, ↓wo_pickL, ↓wo_callf, ↓wc_exit, ↓wc_ret, ↓wc_skip, ↓wc_wl, wo_some, wo_none, wo_ite, opQ_eq, seqQ_normal, seqQ_exit, seqQ_ret, blockQ_normal, blockQ_exit, blockQ_ret, iterQ_normal, iterQ_exit, iterQ_ret, retQ_normal, retQ_ret, retQ_exit, pickC_true, pickC_false, pickO_true, pickO_false, gstep_tt, gstep_ff, gstep_tf, gstep_ft, gstep_skip, int_bne, int_beq, decide_not, Nat.reduceAdd, Nat.reduceMul, Nat.reduceSub, Nat.reducePow, Nat.reduceLT, Nat.reduceLeDiff, Nat.reduceEqDiff, Int.reduceToNat, Int.reduceAdd, Int.reduceSub, Int.reduceNeg, Int.reduceMul, Int.reduceLT, Int.reduceLE, Int.reduceEq, le_max, ↓wo_build, ↓wo_buildSlice, evParts, ↓reduceIte, planIds, hasExt, cntFs, idxFs, clnFs, ovlFs, List.contains_cons, List.contains_nil, List.any_cons, List.any_nil, Nat.reduceBEq, setC, List.length_set, decide_eq_true_eq, decide_eq_false_iff_not, true_implies, false_implies, forall_const, reduceCtorEq, eq_self, Int.natCast_nonneg, Int.toNat_natCast, Int.ofNat_lt, D.int.injEq, Option.some.injEq, Nat.zero_add, Nat.add_zero, bne_iff_ne, bne_eq_false_iff_eq, beq_iff_eq, beq_eq_false_iff_ne, gt_iff_lt, ne_eq, not_true_eq_false, not_false_eq_true, planIds, hasExt, cntFs, idxFs, clnFs, ovlFs, List.contains_cons, List.contains_nil, List.any_cons, List.any_nil, Nat.reduceBEq, Nat.reduceMul, Nat.reduceAdd, ↓reduceIte, hal, h0, h1, h2, h3, h9, h10, h11, h12, hkl, hlt, kb, hqT, List.length_map, List.getElem?_map, hsk, hz, hz1, sge, cf, cv, w3, Int.natCast_add, Int.natCast_one]
        exact ⟨out, rs, rfl, hgr, hpj, hx, hown, skip (by rw [e1, e2]; rfl), by omega⟩

def levF (l : List Cnn) (segs : List Sgm) (fr : ByteArray) : Nat → List Nat → List (List Nat)
  | 0, p => [p]
  | n + 1, p => (extL l segs fr p).flatMap (levF l segs fr n)
theorem levF_succ {l segs fr} : ∀ (n : Nat) (p : List Nat), levF l segs fr (n + 1) p = (levF l segs fr n p).flatMap (extL l segs fr)
  | 0, p => by simp [levF]
  | n + 1, p => by
    rw [levF, levF, List.flatMap_assoc]
    congr 1
    funext q
    exact levF_succ n q
def endB (segs : List Sgm) (to : ByteArray) (p : List Nat) : Bool := match p[p.length - 1]? with
  | some j => (tAt segs j).toList == to.toList
  | none => false
theorem endB_snoc {segs to p i} : endB segs to (p ++ [i]) = ((tAt segs i).toList == to.toList) := by
  unfold endB
  rw [List.length_append, List.length_cons, List.length_nil, Nat.zero_add, Nat.add_sub_cancel, List.getElem?_concat_length]
theorem mem_extL {l segs fr} {p q : List Nat} (h : q ∈ extL l segs fr p) : ∃ i, q = p ++ [i] ∧ i < segs.length ∧ cand l segs fr p i = true := by
  unfold extL at h
  rw [List.mem_flatMap] at h
  obtain ⟨i, hi, h⟩ := h
  split at h
  · exact ⟨i, by simpa using h, List.mem_range.1 hi, by assumption⟩
  · simp at h
theorem mem_levF {l segs fr} : ∀ {n : Nat} {p q : List Nat}, q ∈ levF l segs fr n p → ∃ r, q = p ++ r ∧ r.length = n
  | 0, p, q, h => ⟨[], by simpa [levF] using h, rfl⟩
  | n + 1, p, q, h => by
    rw [levF, List.mem_flatMap] at h
    obtain ⟨s, hs, h⟩ := h
    obtain ⟨i, rfl, -, -⟩ := mem_extL hs
    obtain ⟨r, rfl, hr⟩ := mem_levF h
    exact ⟨i :: r, by simp, by simp [hr]⟩
theorem end_once {l segs fr to} {n : Nat} {p r : List Nat} (hj : ∃ j ∈ p, ((tAt segs j).toList == to.toList) = true) (hr : r ∈ levF l segs fr (n + 1) p) : endB segs to r = false := by
  rw [levF_succ, List.mem_flatMap] at hr
  obtain ⟨s, hs, hr⟩ := hr
  obtain ⟨i, rfl, hi, hc⟩ := mem_extL hr
  obtain ⟨t, rfl, -⟩ := mem_levF hs
  rw [endB_snoc]
  obtain ⟨j, hj, he⟩ := hj
  cases e : ((tAt segs i).toList == to.toList)
  · rfl
  have e1 : (tAt segs i).toList = to.toList := by simpa using e
  have e2 : (tAt segs j).toList = to.toList := by simpa using he
  unfold cand at hc
  rw [List.getElem?_eq_getElem hi] at hc
  simp only [Bool.and_eq_true, Bool.not_eq_true'] at hc
  have h2 := hc.1.2
  rw [List.any_eq_false] at h2
  have h3 := h2 (tAt segs j) (by unfold stopsL; simp only [List.mem_cons, List.mem_map, List.mem_append]; exact .inr ⟨j, .inl hj, rfl⟩)
  have h4 : (tAt segs i) = (segs[i]).t := by unfold tAt; rw [List.getElem?_eq_getElem hi]
  rw [← h4, e1, e2] at h3
  simp at h3
theorem flat_filter {α : Type} (f : α → Bool) (l : List α) : (l.flatMap fun q => if f q = true then [q] else []) = l.filter f := by
  induction l with
  | nil => rfl
  | cons a l ih => rw [List.flatMap_cons, ih, List.filter_cons]; split <;> simp
theorem flat_perm {α β : Type} {f g h : α → List β} : ∀ {L : List α}, (∀ q ∈ L, (f q).Perm (g q ++ h q)) → (L.flatMap f).Perm (L.flatMap g ++ L.flatMap h)
  | [], _ => List.Perm.refl _
  | a :: L, H => by
    rw [List.flatMap_cons, List.flatMap_cons, List.flatMap_cons]
    refine ((H a (by simp)).append (flat_perm fun q hq => H q (by simp [hq]))).trans ?_
    rw [List.append_assoc, List.append_assoc]
    exact (List.perm_append_comm_assoc _ _ _).append_left _
theorem dfs_ext {l segs fr to m p} : dfs l segs fr to (m + 1) p = (extL l segs fr p).flatMap fun q => if endB segs to q = true then [q] else dfs l segs fr to m q := by
  rw [dfs, extL, List.flatMap_assoc]
  congr 1
  funext i
  split
  · simp [endB_snoc]
  · rfl
theorem dfs_lev {l segs fr to} : ∀ (m : Nat) (p : List Nat), (dfs l segs fr to (m + 1) p).Perm (dfs l segs fr to m p ++ (levF l segs fr (m + 1) p).filter (endB segs to))
  | 0, p => by
    rw [dfs_ext]
    have h1 : levF l segs fr 1 p = extL l segs fr p := by simp [levF]
    rw [h1]
    simp only [dfs]
    rw [flat_filter]
    exact List.Perm.refl _
  | m + 1, p => by
    rw [dfs_ext, dfs_ext, levF, List.filter_flatMap]
    refine flat_perm fun q hq => ?_
    obtain ⟨i, rfl, -, -⟩ := mem_extL hq
    by_cases e : endB segs to (p ++ [i]) = true
    · rw [if_pos e, if_pos e]
      have : (levF l segs fr (m + 1) (p ++ [i])).filter (endB segs to) = [] := List.filter_eq_nil_iff.2 fun r hr => by
        rw [end_once (to := to) ⟨i, by simp, by rw [← endB_snoc (p := p)]; exact e⟩ hr]; simp
      rw [this]
      exact List.Perm.refl _
    · rw [if_neg e, if_neg e]
      exact dfs_lev m _
theorem ins_sorted {α : Type} {segs : List Sgm} {f : α → List Nat} {o1 o2 : List α} {x : α} (hs : (o1 ++ o2).Pairwise fun a b => ¬ ahd segs (f b) (f a)) (h2 : ∀ z ∈ o2, ahd segs (f x) (f z)) (h1 : ∀ z, o1.getLast? = some z → ¬ ahd segs (f x) (f z)) : (o1 ++ x :: o2).Pairwise fun a b => ¬ ahd segs (f b) (f a) := by
  rw [List.pairwise_append] at hs ⊢
  obtain ⟨s1, s2, s3⟩ := hs
  have hx : ∀ a ∈ o1, ¬ ahd segs (f x) (f a) := fun a ha hh => by
    rcases List.eq_nil_or_concat o1 with rfl | ⟨L, b, rfl⟩
    · simp at ha
    rw [List.concat_eq_append] at ha s1 h1
    have hb := h1 b (by rw [List.getLast?_concat])
    rcases List.mem_append.1 ha with h | h
    · have hp := (List.pairwise_append.1 s1).2.2 a h b (by simp)
      rcases ahd_tri (segs := segs) (f a) (f b) with h' | h' | h'
      · exact hb (ahd_trans hh h')
      · rw [h'] at hh; exact hb hh
      · exact hp h'
    · obtain rfl : a = b := by simpa using h
      exact hb hh
  refine ⟨s1, List.pairwise_cons.2 ⟨fun z hz h => ahd_irrefl _ (ahd_trans (h2 z hz) h), s2⟩, fun a ha b hb => ?_⟩
  rcases List.mem_cons.1 hb with rfl | h
  · exact hx a ha
  · exact s3 a ha b h

theorem callD_gen {call : Call} {st : Bool} {S : List Ob} {f : FuncId} {args : List D} (hm : E.mode f = .gen) : callD E call st S f args = call f args S := by
  unfold callD
  rw [hm]
theorem grow1 {T : List Ob} {segs : List Sgm} {out : D} {rs : List (D × List Nat)} {k : Nat} (hg : GL 1 encP T out rs) (hr : ∀ z ∈ rs, PJ T segs z) (hk : k < segs.length) (hrs : rs.length ≤ 60000) :
    ∃ d3 T3, dAppend Tryd.prog T 43 43 out (.sl 1 [[.sl 1 [[intV k]] true]] true) = some (d3, T3) ∧ GL 1 encP T3 d3 (rs ++ [(.sl 1 [[intV k]] true, [k])]) ∧ (∀ w ∈ rs ++ [(.sl 1 [[intV k]] true, [k])], PJ T3 segs w) := by
  have t1 : elemT Tryd.prog 43 = some 54 := by kernel_rfl
  have t2 : sizeT Tryd.prog 54 = some 1 := by kernel_rfl
  have t3 : zeroT Tryd.prog 54 = some .nils := by kernel_rfl
  have t5 : bytesT Tryd.prog 54 ≤ 100000 := Nat.le_of_ble_eq_true (by kernel_rfl)
  obtain ⟨d3, T3, a3, g3, l3, x3, w3, -⟩ := app_src (enc := encP) t1 t2 t3 rfl t5 (x := .sl 1 [[.sl 1 [[intV k]] true]] true) (r := [(.sl 1 [[intV k]] true, [k])]) (.inr hg) (by simp [srcOf]) (by simp only [List.length_cons, List.length_nil]; omega)
  refine ⟨d3, T3, a3, ?_, fun w hw => ?_⟩
  · rcases g3 with ⟨-, h⟩ | h
    · simp at h
    · exact h
  · rcases List.mem_append.1 hw with h | h
    · refine ⟨?_, (hr w h).non, (hr w h).len, (hr w h).ind⟩
      rcases (hr w h).pq with h1 | ⟨q, h1, h2⟩
      · exact .inl h1
      · exact .inr ⟨q, h1, x3 _ _ (PJ.ne hg hr (hr w h).non h2) h2⟩
    · obtain rfl : w = _ := by simpa using h
      exact ⟨.inl rfl, by simp, by simp, fun j hj => by
        obtain rfl : j = k := by simpa using hj
        exact hk⟩
theorem dfs_mono {l segs fr to} : ∀ {a b : Nat}, a ≤ b → (dfs l segs fr to a []).length ≤ (dfs l segs fr to b []).length
  | a, 0, h => by
    obtain rfl : a = 0 := by omega
    exact Nat.le_refl _
  | a, b + 1, h => by
    rcases Nat.lt_or_eq_of_le h with h | rfl
    · have h1 := dfs_mono (l := l) (segs := segs) (fr := fr) (to := to) (a := a) (b := b) (by omega)
      have h2 := (dfs_lev (l := l) (segs := segs) (fr := fr) (to := to) b []).length_eq
      rw [List.length_append] at h2
      omega
    · exact Nat.le_refl _
def RefR (l : List Cnn) (segs : List Sgm) (fr to : ByteArray) (mo : Int) (r : D) (T : List Ob) : Prop := ((mo < 1 ∨ 3 < mo) ∧ r = .tup [.nils, .int .i64 2]) ∨ ∃ m : Nat, mo = ((m + 1 : Nat) : Int) ∧ m ≤ 2 ∧ ((1024 < (dfs l segs fr to (m + 1) []).length ∧ r = .tup [.nils, .int .i64 4]) ∨ ((dfs l segs fr to (m + 1) []).length ≤ 1024 ∧ ∃ d o, r = .tup [d, .int .i64 0] ∧ GL 1 encP T d o ∧ (∀ z ∈ o, PJ T segs z) ∧ (o.map (·.2)).Perm (dfs l segs fr to (m + 1) []) ∧ (o.map (·.2)).Pairwise fun x y => ¬ ahd segs y x))
set_option maxHeartbeats 16000000 in
set_option maxRecDepth 100000 in
theorem RPaths_d {n : Nat} {l : List Cnn} {x : Bool} {segs : List Sgm} {y : Bool} {fr to : ByteArray} {mo : Int} {S : List Ob} (hn : 40000 + l.length ≤ n) (hll : l.length ≤ 1000) (hsl : segs.length ≤ 30) (near : ∀ s ∈ segs, Near s) :
    WO (dcall E (n + 1) 21 [.sl 4 (l.map Cnn.enc) x, .sl 7 (segs.map Sgm.enc) y, .str fr, .str to, .int .i64 mo] S) fun r T => RefR l segs fr to mo r T := by
  have sge : ∀ s : Sgm, s.enc = [.str s.c, .int .i64 s.n, .int .i64 s.d, .str s.f, .str s.t, .int .i64 s.dep, .int .i64 s.arr] := fun _ => rfl
  obtain ⟨n', hn'⟩ : ∃ n', n = n' + 1 := ⟨n - 1, by omega⟩
  have cgen : ∀ {f : Nat} {args : List D} {T : List Ob} {r : Option (D × List Ob)}, E.mode f = .gen → dcall E n f args T = r → callD E (dcall E n) false T f args = r := fun h1 h2 => (callD_gen h1).trans h2
  refine wo_dcall Tryd.func21 rfl (by decide) rfl 94 rfl (fun a hal ha => ?_)
  have h0 : a[0]? = some (.sl 4 (l.map Cnn.enc) x) := ha 0 (by simp)
  have h1 : a[1]? = some (.sl 7 (segs.map Sgm.enc) y) := ha 1 (by simp)
  have h2 : a[2]? = some (.str fr) := ha 2 (by simp)
  have h3 : a[3]? = some (.str to) := ha 3 (by simp)
  have h4 : a[4]? = some (.int .i64 mo) := ha 4 (by simp)
  clear ha
  by_cases q1 : mo < 1
  · simp (maxSteps := 1000000) (disch := omega) only [push_cast, ↓wc_seq, ↓wc_block, ↓wc_scope, ↓wc_condL, ↓wc_region, ↓wr_cons, ↓wr_consgL, ↓wr_nil, ↓wo_pickL, ↓wo_callf, ↓wc_exit, ↓wc_ret, ↓wc_skip, ↓wc_wl, wo_some, wo_none, wo_ite, opQ_eq, seqQ_normal, seqQ_exit, seqQ_ret, blockQ_normal, blockQ_exit, blockQ_ret, iterQ_normal, iterQ_exit, iterQ_ret, retQ_normal, retQ_ret, retQ_exit, pickC_true, pickC_false, pickO_true, pickO_false, gstep_tt, gstep_ff, gstep_tf, gstep_ft, gstep_skip, int_bne, int_beq, decide_not, Nat.reduceAdd, Nat.reduceMul, Nat.reduceSub, Nat.reducePow, Nat.reduceLT, Nat.reduceLeDiff, Nat.reduceEqDiff, Int.reduceToNat, Int.reduceAdd, Int.reduceSub, Int.reduceNeg, Int.reduceMul, Int.reduceLT, Int.reduceLE, Int.reduceEq, le_max, ↓wo_build, ↓wo_buildSlice, evParts, ↓reduceIte, planIds, hasExt, cntFs, idxFs, clnFs, ovlFs, List.contains_cons, List.contains_nil, List.any_cons, List.any_nil, Nat.reduceBEq, setC, List.length_set, decide_eq_true_eq, decide_eq_false_iff_not, true_implies, false_implies, forall_const, reduceCtorEq, eq_self, Int.natCast_nonneg, Int.toNat_natCast, Int.ofNat_lt, D.int.injEq, Option.some.injEq, Nat.zero_add, Nat.add_zero, bne_iff_ne, bne_eq_false_iff_eq, beq_iff_eq, beq_eq_false_iff_ne, gt_iff_lt, ne_eq, not_true_eq_false, not_false_eq_true, planIds, hasExt, cntFs, idxFs, clnFs, ovlFs, List.contains_cons, List.contains_nil, List.any_cons, List.any_nil, Nat.reduceBEq, Nat.reduceMul, Nat.reduceAdd, ↓reduceIte, hal, h0, h1, h2, h3, h4, q1, Tryd.f21]
    exact .inl ⟨.inl q1, rfl⟩
  by_cases q2 : 3 < mo
  · simp (maxSteps := 1000000) (disch := omega) only [push_cast, ↓wc_seq, ↓wc_block, ↓wc_scope, ↓wc_condL, ↓wc_region, ↓wr_cons, ↓wr_consgL, ↓wr_nil, ↓wo_pickL, ↓wo_callf, ↓wc_exit, ↓wc_ret, ↓wc_skip, ↓wc_wl, wo_some, wo_none, wo_ite, opQ_eq, seqQ_normal, seqQ_exit, seqQ_ret, blockQ_normal, blockQ_exit, blockQ_ret, iterQ_normal, iterQ_exit, iterQ_ret, retQ_normal, retQ_ret, retQ_exit, pickC_true, pickC_false, pickO_true, pickO_false, gstep_tt, gstep_ff, gstep_tf, gstep_ft, gstep_skip, int_bne, int_beq, decide_not, Nat.reduceAdd, Nat.reduceMul, Nat.reduceSub, Nat.reducePow, Nat.reduceLT, Nat.reduceLeDiff, Nat.reduceEqDiff, Int.reduceToNat, Int.reduceAdd, Int.reduceSub, Int.reduceNeg, Int.reduceMul, Int.reduceLT, Int.reduceLE, Int.reduceEq, le_max, ↓wo_build, ↓wo_buildSlice, evParts, ↓reduceIte, planIds, hasExt, cntFs, idxFs, clnFs, ovlFs, List.contains_cons, List.contains_nil, List.any_cons, List.any_nil, Nat.reduceBEq, setC, List.length_set, decide_eq_true_eq, decide_eq_false_iff_not, true_implies, false_implies, forall_const, reduceCtorEq, eq_self, Int.natCast_nonneg, Int.toNat_natCast, Int.ofNat_lt, D.int.injEq, Option.some.injEq, Nat.zero_add, Nat.add_zero, bne_iff_ne, bne_eq_false_iff_eq, beq_iff_eq, beq_eq_false_iff_ne, gt_iff_lt, ne_eq, not_true_eq_false, not_false_eq_true, planIds, hasExt, cntFs, idxFs, clnFs, ovlFs, List.contains_cons, List.contains_nil, List.any_cons, List.any_nil, Nat.reduceBEq, Nat.reduceMul, Nat.reduceAdd, ↓reduceIte, hal, h0, h1, h2, h3, h4, q1, q2, Tryd.f21]
    exact .inl ⟨.inr q2, rfl⟩
  obtain ⟨m, hm⟩ : ∃ m : Nat, mo = ((m + 1 : Nat) : Int) := ⟨(mo - 1).toNat, by omega⟩
  have hm2 : m ≤ 2 := by omega
  rw [wc_asc, wc_asc, wc_asc]
  refine wc_scut (fun a T => ∃ (dN : D) (ns : List (D × List Nat)), a.length = 94 ∧ a[0]? = some (.sl 4 (l.map Cnn.enc) x) ∧ a[1]? = some (.sl 7 (segs.map Sgm.enc) y) ∧ a[2]? = some (.str fr) ∧ a[3]? = some (.str to) ∧ a[4]? = some (.int .i64 mo) ∧ a[12]? = some (dN) ∧ a[13]? = some (.nils) ∧ GL 1 encP T dN ns ∧ (∀ z ∈ ns, PJ T segs z) ∧ ns.map (·.2) = levF l segs fr 1 [] ∧ ns.length ≤ 30) ?_ ?_
  · simp (maxSteps := 1000000) (disch := omega) only [push_cast, ↓wc_seq, ↓wc_block, ↓wc_scope, ↓wc_condL, ↓wc_region, ↓wr_cons, ↓wr_consgL, ↓wr_nil, ↓wo_pickL, ↓wo_callf, ↓wc_exit, ↓wc_ret, ↓wc_skip, ↓wc_wl, wo_some, wo_none, wo_ite, opQ_eq, seqQ_normal, seqQ_exit, seqQ_ret, blockQ_normal, blockQ_exit, blockQ_ret, iterQ_normal, iterQ_exit, iterQ_ret, retQ_normal, retQ_ret, retQ_exit, pickC_true, pickC_false, pickO_true, pickO_false, gstep_tt, gstep_ff, gstep_tf, gstep_ft, gstep_skip, int_bne, int_beq, decide_not, Nat.reduceAdd, Nat.reduceMul, Nat.reduceSub, Nat.reducePow, Nat.reduceLT, Nat.reduceLeDiff, Nat.reduceEqDiff, Int.reduceToNat, Int.reduceAdd, Int.reduceSub, Int.reduceNeg, Int.reduceMul, Int.reduceLT, Int.reduceLE, Int.reduceEq, le_max, ↓wo_build, ↓wo_buildSlice, evParts, ↓reduceIte, planIds, hasExt, cntFs, idxFs, clnFs, ovlFs, List.contains_cons, List.contains_nil, List.any_cons, List.any_nil, Nat.reduceBEq, setC, List.length_set, decide_eq_true_eq, decide_eq_false_iff_not, true_implies, false_implies, forall_const, reduceCtorEq, eq_self, Int.natCast_nonneg, Int.toNat_natCast, Int.ofNat_lt, D.int.injEq, Option.some.injEq, Nat.zero_add, Nat.add_zero, bne_iff_ne, bne_eq_false_iff_eq, beq_iff_eq, beq_eq_false_iff_ne, gt_iff_lt, ne_eq, not_true_eq_false, not_false_eq_true, planIds, hasExt, cntFs, idxFs, clnFs, ovlFs, List.contains_cons, List.contains_nil, List.any_cons, List.any_nil, Nat.reduceBEq, Nat.reduceMul, Nat.reduceAdd, ↓reduceIte, hal, h0, h1, h2, h3, h4, q1, q2]
    refine wl_loop (fun i a T => ∃ (dN : D) (ns : List (D × List Nat)), a.length = 94 ∧ a[0]? = some (.sl 4 (l.map Cnn.enc) x) ∧ a[1]? = some (.sl 7 (segs.map Sgm.enc) y) ∧ a[2]? = some (.str fr) ∧ a[3]? = some (.str to) ∧ a[4]? = some (.int .i64 mo) ∧ a[12]? = some (dN) ∧ a[13]? = some (.nils) ∧ a[14]? = some (.int .i64 i) ∧ GL 1 encP T dN ns ∧ (∀ z ∈ ns, PJ T segs z) ∧ ns.map (·.2) = extK l segs fr [] i ∧ ns.length ≤ i) segs.length ?_ (by omega) ?_
    · simp (maxSteps := 1000000) (disch := omega) only [push_cast, ↓wc_seq, ↓wc_block, ↓wc_scope, ↓wc_condL, ↓wc_region, ↓wr_cons, ↓wr_consgL, ↓wr_nil, ↓wo_pickL, ↓wo_callf, ↓wc_exit, ↓wc_ret, ↓wc_skip, ↓wc_wl, wo_some, wo_none, wo_ite, opQ_eq, seqQ_normal, seqQ_exit, seqQ_ret, blockQ_normal, blockQ_exit, blockQ_ret, iterQ_normal, iterQ_exit, iterQ_ret, retQ_normal, retQ_ret, retQ_exit, pickC_true, pickC_false, pickO_true, pickO_false, gstep_tt, gstep_ff, gstep_tf, gstep_ft, gstep_skip, int_bne, int_beq, decide_not, Nat.reduceAdd, Nat.reduceMul, Nat.reduceSub, Nat.reducePow, Nat.reduceLT, Nat.reduceLeDiff, Nat.reduceEqDiff, Int.reduceToNat, Int.reduceAdd, Int.reduceSub, Int.reduceNeg, Int.reduceMul, Int.reduceLT, Int.reduceLE, Int.reduceEq, le_max, ↓wo_build, ↓wo_buildSlice, evParts, ↓reduceIte, planIds, hasExt, cntFs, idxFs, clnFs, ovlFs, List.contains_cons, List.contains_nil, List.any_cons, List.any_nil, Nat.reduceBEq, setC, List.length_set, decide_eq_true_eq, decide_eq_false_iff_not, true_implies, false_implies, forall_const, reduceCtorEq, eq_self, Int.natCast_nonneg, Int.toNat_natCast, Int.ofNat_lt, D.int.injEq, Option.some.injEq, Nat.zero_add, Nat.add_zero, bne_iff_ne, bne_eq_false_iff_eq, beq_iff_eq, beq_eq_false_iff_ne, gt_iff_lt, ne_eq, not_true_eq_false, not_false_eq_true, planIds, hasExt, cntFs, idxFs, clnFs, ovlFs, List.contains_cons, List.contains_nil, List.any_cons, List.any_nil, Nat.reduceBEq, Nat.reduceMul, Nat.reduceAdd, ↓reduceIte, hal, h0, h1, h2, h3, h4, Int.natCast_zero]
      exact ⟨_, [], rfl, .inl ⟨rfl, rfl⟩, by simp, rfl, by simp⟩
    clear hal h0 h1 h2 h3 h4 a
    rintro i a T hi ⟨dN, ns, hal, h0, h1, h2, h3, h4, h12, h13, h14, hg, hp, hns, hnl⟩
    rcases Nat.lt_or_eq_of_le hi with hlt | rfl
    case inr =>
      simp (maxSteps := 1000000) (disch := omega) only [push_cast, ↓wc_seq, ↓wc_block, ↓wc_scope, ↓wc_condL, ↓wc_region, ↓wr_cons, ↓wr_consgL, ↓wr_nil, ↓wo_pickL, ↓wo_callf, ↓wc_exit, ↓wc_ret, ↓wc_skip, ↓wc_wl, wo_some, wo_none, wo_ite, opQ_eq, seqQ_normal, seqQ_exit, seqQ_ret, blockQ_normal, blockQ_exit, blockQ_ret, iterQ_normal, iterQ_exit, iterQ_ret, retQ_normal, retQ_ret, retQ_exit, pickC_true, pickC_false, pickO_true, pickO_false, gstep_tt, gstep_ff, gstep_tf, gstep_ft, gstep_skip, int_bne, int_beq, decide_not, Nat.reduceAdd, Nat.reduceMul, Nat.reduceSub, Nat.reducePow, Nat.reduceLT, Nat.reduceLeDiff, Nat.reduceEqDiff, Int.reduceToNat, Int.reduceAdd, Int.reduceSub, Int.reduceNeg, Int.reduceMul, Int.reduceLT, Int.reduceLE, Int.reduceEq, le_max, ↓wo_build, ↓wo_buildSlice, evParts, ↓reduceIte, planIds, hasExt, cntFs, idxFs, clnFs, ovlFs, List.contains_cons, List.contains_nil, List.any_cons, List.any_nil, Nat.reduceBEq, setC, List.length_set, decide_eq_true_eq, decide_eq_false_iff_not, true_implies, false_implies, forall_const, reduceCtorEq, eq_self, Int.natCast_nonneg, Int.toNat_natCast, Int.ofNat_lt, D.int.injEq, Option.some.injEq, Nat.zero_add, Nat.add_zero, bne_iff_ne, bne_eq_false_iff_eq, beq_iff_eq, beq_eq_false_iff_ne, gt_iff_lt, ne_eq, not_true_eq_false, not_false_eq_true, planIds, hasExt, cntFs, idxFs, clnFs, ovlFs, List.contains_cons, List.contains_nil, List.any_cons, List.any_nil, Nat.reduceBEq, Nat.reduceMul, Nat.reduceAdd, ↓reduceIte, hal, h0, h1, h2, h3, h4, h12, h13, h14, List.length_map, Nat.lt_irrefl]
      exact ⟨dN, ns, rfl, hg, hp, by rw [hns]; simp [levF, extL, extK], by omega⟩
    obtain ⟨s, hs⟩ : ∃ s, segs[i]? = some s := ⟨segs[i], by simp⟩
    have w1 : IntKind.i64.wrap ((i : Int) + 1) = (i : Int) + 1 := wrap_ok (by omega) (by omega)
    obtain ⟨d3, T3, a3, g3, p3⟩ := grow1 hg hp hlt (by omega)
    have hc : cand l segs fr [] i = ((s.f.toList == fr.toList) && !(s.t.toList == fr.toList)) := by
      unfold cand
      rw [hs]
      simp [stopsL, lastFit]
    have hxk := extK_succ (l := l) (segs := segs) (fr := fr) (p := []) (k := i)
    rw [hc] at hxk
    clear hc
    cases e1 : (s.f.toList == fr.toList)
    · simp (maxSteps := 1000000) (disch := omega) only [push_cast, ↓wc_seq, ↓wc_block, ↓wc_scope, ↓wc_condL, ↓wc_region, ↓wr_cons, ↓wr_consgL, ↓wr_nil, ↓wo_pickL, ↓wo_callf, ↓wc_exit, ↓wc_ret, ↓wc_skip, ↓wc_wl, wo_some, wo_none, wo_ite, opQ_eq, seqQ_normal, seqQ_exit, seqQ_ret, blockQ_normal, blockQ_exit, blockQ_ret, iterQ_normal, iterQ_exit, iterQ_ret, retQ_normal, retQ_ret, retQ_exit, pickC_true, pickC_false, pickO_true, pickO_false, gstep_tt, gstep_ff, gstep_tf, gstep_ft, gstep_skip, int_bne, int_beq, decide_not, Nat.reduceAdd, Nat.reduceMul, Nat.reduceSub, Nat.reducePow, Nat.reduceLT, Nat.reduceLeDiff, Nat.reduceEqDiff, Int.reduceToNat, Int.reduceAdd, Int.reduceSub, Int.reduceNeg, Int.reduceMul, Int.reduceLT, Int.reduceLE, Int.reduceEq, le_max, ↓wo_build, ↓wo_buildSlice, evParts, ↓reduceIte, planIds, hasExt, cntFs, idxFs, clnFs, ovlFs, List.contains_cons, List.contains_nil, List.any_cons, List.any_nil, Nat.reduceBEq, setC, List.length_set, decide_eq_true_eq, decide_eq_false_iff_not, true_implies, false_implies, forall_const, reduceCtorEq, eq_self, Int.natCast_nonneg, Int.toNat_natCast, Int.ofNat_lt, D.int.injEq, Option.some.injEq, Nat.zero_add, Nat.add_zero, bne_iff_ne, bne_eq_false_iff_eq, beq_iff_eq, beq_eq_false_iff_ne, gt_iff_lt, ne_eq, not_true_eq_false, not_false_eq_true, planIds, hasExt, cntFs, idxFs, clnFs, ovlFs, List.contains_cons, List.contains_nil, List.any_cons, List.any_nil, Nat.reduceBEq, Nat.reduceMul, Nat.reduceAdd, ↓reduceIte, hal, h0, h1, h2, h3, h4, h12, h13, h14, hlt, hs, sge, e1, List.length_map, List.getElem?_map, w1, Int.natCast_add, Int.natCast_one]
      exact ⟨dN, ns, rfl, hg, hp, by rw [hns, hxk, e1]; simp, by omega⟩
    · cases e2 : (s.t.toList == fr.toList)
      · simp (maxSteps := 1000000) (disch := omega) only [push_cast, ↓wc_seq, ↓wc_block, ↓wc_scope, ↓wc_condL, ↓wc_region, ↓wr_cons, ↓wr_consgL, ↓wr_nil, ↓wo_pickL, ↓wo_callf, ↓wc_exit, ↓wc_ret, ↓wc_skip, ↓wc_wl, wo_some, wo_none, wo_ite, opQ_eq, seqQ_normal, seqQ_exit, seqQ_ret, blockQ_normal, blockQ_exit, blockQ_ret, iterQ_normal, iterQ_exit, iterQ_ret, retQ_normal, retQ_ret, retQ_exit, pickC_true, pickC_false, pickO_true, pickO_false, gstep_tt, gstep_ff, gstep_tf, gstep_ft, gstep_skip, int_bne, int_beq, decide_not, Nat.reduceAdd, Nat.reduceMul, Nat.reduceSub, Nat.reducePow, Nat.reduceLT, Nat.reduceLeDiff, Nat.reduceEqDiff, Int.reduceToNat, Int.reduceAdd, Int.reduceSub, Int.reduceNeg, Int.reduceMul, Int.reduceLT, Int.reduceLE, Int.reduceEq, le_max, ↓wo_build, ↓wo_buildSlice, evParts, ↓reduceIte, planIds, hasExt, cntFs, idxFs, clnFs, ovlFs, List.contains_cons, List.contains_nil, List.any_cons, List.any_nil, Nat.reduceBEq, setC, List.length_set, decide_eq_true_eq, decide_eq_false_iff_not, true_implies, false_implies, forall_const, reduceCtorEq, eq_self, Int.natCast_nonneg, Int.toNat_natCast, Int.ofNat_lt, D.int.injEq, Option.some.injEq, Nat.zero_add, Nat.add_zero, bne_iff_ne, bne_eq_false_iff_eq, beq_iff_eq, beq_eq_false_iff_ne, gt_iff_lt, ne_eq, not_true_eq_false, not_false_eq_true, planIds, hasExt, cntFs, idxFs, clnFs, ovlFs, List.contains_cons, List.contains_nil, List.any_cons, List.any_nil, Nat.reduceBEq, Nat.reduceMul, Nat.reduceAdd, ↓reduceIte, hal, h0, h1, h2, h3, h4, h12, h13, h14, hlt, hs, sge, e1, e2, a3, List.length_map, List.getElem?_map, w1, Int.natCast_add, Int.natCast_one, bne]
        exact ⟨d3, _, rfl, g3, p3, by rw [List.map_append, hns, hxk, e1, e2]; simp, by simp; omega⟩
      · simp (maxSteps := 1000000) (disch := omega) only [push_cast, ↓wc_seq, ↓wc_block, ↓wc_scope, ↓wc_condL, ↓wc_region, ↓wr_cons, ↓wr_consgL, ↓wr_nil, ↓wo_pickL, ↓wo_callf, ↓wc_exit, ↓wc_ret, ↓wc_skip, ↓wc_wl, wo_some, wo_none, wo_ite, opQ_eq, seqQ_normal, seqQ_exit, seqQ_ret, blockQ_normal, blockQ_exit, blockQ_ret, iterQ_normal, iterQ_exit, iterQ_ret, retQ_normal, retQ_ret, retQ_exit, pickC_true, pickC_false, pickO_true, pickO_false, gstep_tt, gstep_ff, gstep_tf, gstep_ft, gstep_skip, int_bne, int_beq, decide_not, Nat.reduceAdd, Nat.reduceMul, Nat.reduceSub, Nat.reducePow, Nat.reduceLT, Nat.reduceLeDiff, Nat.reduceEqDiff, Int.reduceToNat, Int.reduceAdd, Int.reduceSub, Int.reduceNeg, Int.reduceMul, Int.reduceLT, Int.reduceLE, Int.reduceEq, le_max, ↓wo_build, ↓wo_buildSlice, evParts, ↓reduceIte, planIds, hasExt, cntFs, idxFs, clnFs, ovlFs, List.contains_cons, List.contains_nil, List.any_cons, List.any_nil, Nat.reduceBEq, setC, List.length_set, decide_eq_true_eq, decide_eq_false_iff_not, true_implies, false_implies, forall_const, reduceCtorEq, eq_self, Int.natCast_nonneg, Int.toNat_natCast, Int.ofNat_lt, D.int.injEq, Option.some.injEq, Nat.zero_add, Nat.add_zero, bne_iff_ne, bne_eq_false_iff_eq, beq_iff_eq, beq_eq_false_iff_ne, gt_iff_lt, ne_eq, not_true_eq_false, not_false_eq_true, planIds, hasExt, cntFs, idxFs, clnFs, ovlFs, List.contains_cons, List.contains_nil, List.any_cons, List.any_nil, Nat.reduceBEq, Nat.reduceMul, Nat.reduceAdd, ↓reduceIte, hal, h0, h1, h2, h3, h4, h12, h13, h14, hlt, hs, sge, e1, e2, List.length_map, List.getElem?_map, w1, Int.natCast_add, Int.natCast_one, bne]
        exact ⟨dN, ns, rfl, hg, hp, by rw [hns, hxk, e1, e2]; simp, by omega⟩
  clear hal h0 h1 h2 h3 h4 a
  rintro a T ⟨dN, ns, hal, h0, h1, h2, h3, h4, h12, h13, hg, hp, hns, hnl⟩
  simp (maxSteps := 1000000) (disch := omega) only [push_cast, ↓wc_seq, ↓wc_block, ↓wc_scope, ↓wc_condL, ↓wc_region, ↓wr_cons, ↓wr_consgL, ↓wr_nil, ↓wo_pickL, ↓wo_callf, ↓wc_exit, ↓wc_ret, ↓wc_skip, ↓wc_wl, wo_some, wo_none, wo_ite, opQ_eq, seqQ_normal, seqQ_exit, seqQ_ret, blockQ_normal, blockQ_exit, blockQ_ret, iterQ_normal, iterQ_exit, iterQ_ret, retQ_normal, retQ_ret, retQ_exit, pickC_true, pickC_false, pickO_true, pickO_false, gstep_tt, gstep_ff, gstep_tf, gstep_ft, gstep_skip, int_bne, int_beq, decide_not, Nat.reduceAdd, Nat.reduceMul, Nat.reduceSub, Nat.reducePow, Nat.reduceLT, Nat.reduceLeDiff, Nat.reduceEqDiff, Int.reduceToNat, Int.reduceAdd, Int.reduceSub, Int.reduceNeg, Int.reduceMul, Int.reduceLT, Int.reduceLE, Int.reduceEq, le_max, ↓wo_build, ↓wo_buildSlice, evParts, ↓reduceIte, planIds, hasExt, cntFs, idxFs, clnFs, ovlFs, List.contains_cons, List.contains_nil, List.any_cons, List.any_nil, Nat.reduceBEq, setC, List.length_set, decide_eq_true_eq, decide_eq_false_iff_not, true_implies, false_implies, forall_const, reduceCtorEq, eq_self, Int.natCast_nonneg, Int.toNat_natCast, Int.ofNat_lt, D.int.injEq, Option.some.injEq, Nat.zero_add, Nat.add_zero, bne_iff_ne, bne_eq_false_iff_eq, beq_iff_eq, beq_eq_false_iff_ne, gt_iff_lt, ne_eq, not_true_eq_false, not_false_eq_true, planIds, hasExt, cntFs, idxFs, clnFs, ovlFs, List.contains_cons, List.contains_nil, List.any_cons, List.any_nil, Nat.reduceBEq, Nat.reduceMul, Nat.reduceAdd, ↓reduceIte, hal, h0, h1, h2, h3, h4, h12, h13]
  refine wl_loop (fun i a T => ∃ (dN : D) (ns : List (D × List Nat)) (dO : D) (os : List (D × List Nat)), a.length = 94 ∧ a[0]? = some (.sl 4 (l.map Cnn.enc) x) ∧ a[1]? = some (.sl 7 (segs.map Sgm.enc) y) ∧ a[2]? = some (.str fr) ∧ a[3]? = some (.str to) ∧ a[4]? = some (.int .i64 mo) ∧ a[12]? = some (dN) ∧ a[13]? = some (dO) ∧ a[15]? = some (.int .i64 ((i + 1 : Nat) : Int)) ∧ GL 1 encP T dN ns ∧ (∀ z ∈ ns, PJ T segs z) ∧ GL 1 encP T dO os ∧ (∀ z ∈ os, PJ T segs z) ∧ os.Pairwise (fun a b => ¬ ahd segs b.2 a.2) ∧ (i ≤ m → ns.map (·.2) = levF l segs fr (i + 1) []) ∧ ns.length ≤ 30 ^ (i + 1) ∧ (os.map (·.2)).Perm (dfs l segs fr to i []) ∧ os.length ≤ 1024) (m + 1) ?_ (by omega) ?_
  · simp (maxSteps := 1000000) (disch := omega) only [push_cast, ↓wc_seq, ↓wc_block, ↓wc_scope, ↓wc_condL, ↓wc_region, ↓wr_cons, ↓wr_consgL, ↓wr_nil, ↓wo_pickL, ↓wo_callf, ↓wc_exit, ↓wc_ret, ↓wc_skip, ↓wc_wl, wo_some, wo_none, wo_ite, opQ_eq, seqQ_normal, seqQ_exit, seqQ_ret, blockQ_normal, blockQ_exit, blockQ_ret, iterQ_normal, iterQ_exit, iterQ_ret, retQ_normal, retQ_ret, retQ_exit, pickC_true, pickC_false, pickO_true, pickO_false, gstep_tt, gstep_ff, gstep_tf, gstep_ft, gstep_skip, int_bne, int_beq, decide_not, Nat.reduceAdd, Nat.reduceMul, Nat.reduceSub, Nat.reducePow, Nat.reduceLT, Nat.reduceLeDiff, Nat.reduceEqDiff, Int.reduceToNat, Int.reduceAdd, Int.reduceSub, Int.reduceNeg, Int.reduceMul, Int.reduceLT, Int.reduceLE, Int.reduceEq, le_max, ↓wo_build, ↓wo_buildSlice, evParts, ↓reduceIte, planIds, hasExt, cntFs, idxFs, clnFs, ovlFs, List.contains_cons, List.contains_nil, List.any_cons, List.any_nil, Nat.reduceBEq, setC, List.length_set, decide_eq_true_eq, decide_eq_false_iff_not, true_implies, false_implies, forall_const, reduceCtorEq, eq_self, Int.natCast_nonneg, Int.toNat_natCast, Int.ofNat_lt, D.int.injEq, Option.some.injEq, Nat.zero_add, Nat.add_zero, bne_iff_ne, bne_eq_false_iff_eq, beq_iff_eq, beq_eq_false_iff_ne, gt_iff_lt, ne_eq, not_true_eq_false, not_false_eq_true, planIds, hasExt, cntFs, idxFs, clnFs, ovlFs, List.contains_cons, List.contains_nil, List.any_cons, List.any_nil, Nat.reduceBEq, Nat.reduceMul, Nat.reduceAdd, ↓reduceIte, hal, h0, h1, h2, h3, h4, h12, h13, Int.natCast_one, Nat.zero_add]
    exact ⟨_, ns, _, [], rfl, rfl, hg, hp, .inl ⟨rfl, rfl⟩, by simp, List.Pairwise.nil, fun _ => hns, by simpa using hnl, List.Perm.refl _, by simp⟩
  clear hal h0 h1 h2 h3 h4 h12 h13 a
  clear hg hp hns hnl dN ns T
  rintro i a T hi ⟨dN, ns, dO, os, hal, h0, h1, h2, h3, h4, h12, h13, h15, hg, hp, hgo, hpo, hso, hns, hnl, hos, hol⟩
  obtain ⟨i1, hi1⟩ : ∃ i1 : Int, i1 = ((i + 1 : Nat) : Int) := ⟨_, rfl⟩
  rw [← hi1] at h15
  rcases Nat.lt_or_eq_of_le hi with hlt | rfl
  case inr =>
    have g0 : ¬ (i1 ≤ mo) := by omega
    simp (maxSteps := 1000000) (disch := omega) only [push_cast, ↓wc_seq, ↓wc_block, ↓wc_scope, ↓wc_condL, ↓wc_region, ↓wr_cons, ↓wr_consgL, ↓wr_nil, ↓wo_pickL, ↓wo_callf, ↓wc_exit, ↓wc_ret, ↓wc_skip, ↓wc_wl, wo_some, wo_none, wo_ite, opQ_eq, seqQ_normal, seqQ_exit, seqQ_ret, blockQ_normal, blockQ_exit, blockQ_ret, iterQ_normal, iterQ_exit, iterQ_ret, retQ_normal, retQ_ret, retQ_exit, pickC_true, pickC_false, pickO_true, pickO_false, gstep_tt, gstep_ff, gstep_tf, gstep_ft, gstep_skip, int_bne, int_beq, decide_not, Nat.reduceAdd, Nat.reduceMul, Nat.reduceSub, Nat.reducePow, Nat.reduceLT, Nat.reduceLeDiff, Nat.reduceEqDiff, Int.reduceToNat, Int.reduceAdd, Int.reduceSub, Int.reduceNeg, Int.reduceMul, Int.reduceLT, Int.reduceLE, Int.reduceEq, le_max, ↓wo_build, ↓wo_buildSlice, evParts, ↓reduceIte, planIds, hasExt, cntFs, idxFs, clnFs, ovlFs, List.contains_cons, List.contains_nil, List.any_cons, List.any_nil, Nat.reduceBEq, setC, List.length_set, decide_eq_true_eq, decide_eq_false_iff_not, true_implies, false_implies, forall_const, reduceCtorEq, eq_self, Int.natCast_nonneg, Int.toNat_natCast, Int.ofNat_lt, D.int.injEq, Option.some.injEq, Nat.zero_add, Nat.add_zero, bne_iff_ne, bne_eq_false_iff_eq, beq_iff_eq, beq_eq_false_iff_ne, gt_iff_lt, ne_eq, not_true_eq_false, not_false_eq_true, planIds, hasExt, cntFs, idxFs, clnFs, ovlFs, List.contains_cons, List.contains_nil, List.any_cons, List.any_nil, Nat.reduceBEq, Nat.reduceMul, Nat.reduceAdd, ↓reduceIte, hal, h0, h1, h2, h3, h4, h12, h13, h15, g0, Tryd.f21]
    exact .inr ⟨m, hm, hm2, .inr ⟨by rw [← hos.length_eq]; simpa using hol, dO, os, rfl, hgo, hpo, hos, List.pairwise_map.2 hso⟩⟩
  have g0 : i1 ≤ mo := by omega
  replace hns := hns (by omega)
  have hnb : ns.length ≤ 27000 ∧ (i < m → ns.length ≤ 900) := by
    have : i = 0 ∨ i = 1 ∨ i = 2 := by omega
    rcases this with rfl | rfl | rfl
    · simp at hnl; omega
    · simp at hnl; omega
    · simp at hnl; omega
  have hlen : ∀ z ∈ ns, z.2.length = i + 1 := fun z hz => by
    have : z.2 ∈ levF l segs fr (i + 1) [] := by rw [← hns]; exact List.mem_map.2 ⟨z, hz, rfl⟩
    obtain ⟨r, h1, h2⟩ := mem_levF this
    rw [h1]; simpa using h2
  refine wc_scut (fun a T' => T' = T ∧ a.length = 94 ∧ a[0]? = some (.sl 4 (l.map Cnn.enc) x) ∧ a[1]? = some (.sl 7 (segs.map Sgm.enc) y) ∧ a[2]? = some (.str fr) ∧ a[3]? = some (.str to) ∧ a[4]? = some (.int .i64 mo) ∧ a[12]? = some (dN) ∧ a[13]? = some (dO) ∧ a[15]? = some (.int .i64 i1)) ?_ ?_
  · simp (maxSteps := 1000000) (disch := omega) only [push_cast, ↓wc_seq, ↓wc_block, ↓wc_scope, ↓wc_condL, ↓wc_region, ↓wr_cons, ↓wr_consgL, ↓wr_nil, ↓wo_pickL, ↓wo_callf, ↓wc_exit, ↓wc_ret, ↓wc_skip, ↓wc_wl, wo_some, wo_none, wo_ite, opQ_eq, seqQ_normal, seqQ_exit, seqQ_ret, blockQ_normal, blockQ_exit, blockQ_ret, iterQ_normal, iterQ_exit, iterQ_ret, retQ_normal, retQ_ret, retQ_exit, pickC_true, pickC_false, pickO_true, pickO_false, gstep_tt, gstep_ff, gstep_tf, gstep_ft, gstep_skip, int_bne, int_beq, decide_not, Nat.reduceAdd, Nat.reduceMul, Nat.reduceSub, Nat.reducePow, Nat.reduceLT, Nat.reduceLeDiff, Nat.reduceEqDiff, Int.reduceToNat, Int.reduceAdd, Int.reduceSub, Int.reduceNeg, Int.reduceMul, Int.reduceLT, Int.reduceLE, Int.reduceEq, le_max, ↓wo_build, ↓wo_buildSlice, evParts, ↓reduceIte, planIds, hasExt, cntFs, idxFs, clnFs, ovlFs, List.contains_cons, List.contains_nil, List.any_cons, List.any_nil, Nat.reduceBEq, setC, List.length_set, decide_eq_true_eq, decide_eq_false_iff_not, true_implies, false_implies, forall_const, reduceCtorEq, eq_self, Int.natCast_nonneg, Int.toNat_natCast, Int.ofNat_lt, D.int.injEq, Option.some.injEq, Nat.zero_add, Nat.add_zero, bne_iff_ne, bne_eq_false_iff_eq, beq_iff_eq, beq_eq_false_iff_ne, gt_iff_lt, ne_eq, not_true_eq_false, not_false_eq_true, planIds, hasExt, cntFs, idxFs, clnFs, ovlFs, List.contains_cons, List.contains_nil, List.any_cons, List.any_nil, Nat.reduceBEq, Nat.reduceMul, Nat.reduceAdd, ↓reduceIte, hal, h0, h1, h2, h3, h4, h12, h13, h15, g0]
  clear hal h0 h1 h2 h3 h4 h12 h13 h15 a
  rintro a T' ⟨rfl, hal, h0, h1, h2, h3, h4, h12, h13, h15⟩
  rw [wc_seq, wc_block]
  refine wc_scut (fun a T => ∃ (dO : D) (os : List (D × List Nat)), a.length = 94 ∧ a[0]? = some (.sl 4 (l.map Cnn.enc) x) ∧ a[1]? = some (.sl 7 (segs.map Sgm.enc) y) ∧ a[2]? = some (.str fr) ∧ a[3]? = some (.str to) ∧ a[4]? = some (.int .i64 mo) ∧ a[12]? = some (dN) ∧ a[13]? = some (dO) ∧ a[15]? = some (.int .i64 i1) ∧ GL 1 encP T dN ns ∧ (∀ z ∈ ns, PJ T segs z) ∧ GL 1 encP T dO os ∧ (∀ z ∈ os, PJ T segs z) ∧ os.Pairwise (fun a b => ¬ ahd segs b.2 a.2) ∧ (os.map (·.2)).Perm (dfs l segs fr to (i + 1) []) ∧ os.length ≤ 1024 + ns.length) ?_ ?_
  · simp (maxSteps := 1000000) (disch := omega) only [push_cast, ↓wc_seq, ↓wc_block, ↓wc_scope, ↓wc_condL, ↓wc_region, ↓wr_cons, ↓wr_consgL, ↓wr_nil, ↓wo_pickL, ↓wo_callf, ↓wc_exit, ↓wc_ret, ↓wc_skip, ↓wc_wl, wo_some, wo_none, wo_ite, opQ_eq, seqQ_normal, seqQ_exit, seqQ_ret, blockQ_normal, blockQ_exit, blockQ_ret, iterQ_normal, iterQ_exit, iterQ_ret, retQ_normal, retQ_ret, retQ_exit, pickC_true, pickC_false, pickO_true, pickO_false, gstep_tt, gstep_ff, gstep_tf, gstep_ft, gstep_skip, int_bne, int_beq, decide_not, Nat.reduceAdd, Nat.reduceMul, Nat.reduceSub, Nat.reducePow, Nat.reduceLT, Nat.reduceLeDiff, Nat.reduceEqDiff, Int.reduceToNat, Int.reduceAdd, Int.reduceSub, Int.reduceNeg, Int.reduceMul, Int.reduceLT, Int.reduceLE, Int.reduceEq, le_max, ↓wo_build, ↓wo_buildSlice, evParts, ↓reduceIte, planIds, hasExt, cntFs, idxFs, clnFs, ovlFs, List.contains_cons, List.contains_nil, List.any_cons, List.any_nil, Nat.reduceBEq, setC, List.length_set, decide_eq_true_eq, decide_eq_false_iff_not, true_implies, false_implies, forall_const, reduceCtorEq, eq_self, Int.natCast_nonneg, Int.toNat_natCast, Int.ofNat_lt, D.int.injEq, Option.some.injEq, Nat.zero_add, Nat.add_zero, bne_iff_ne, bne_eq_false_iff_eq, beq_iff_eq, beq_eq_false_iff_ne, gt_iff_lt, ne_eq, not_true_eq_false, not_false_eq_true, planIds, hasExt, cntFs, idxFs, clnFs, ovlFs, List.contains_cons, List.contains_nil, List.any_cons, List.any_nil, Nat.reduceBEq, Nat.reduceMul, Nat.reduceAdd, ↓reduceIte, hal, h0, h1, h2, h3, h4, h12, h13, h15]
    refine wl_loop (fun k a T => ∃ (dO : D) (os : List (D × List Nat)), a.length = 94 ∧ a[0]? = some (.sl 4 (l.map Cnn.enc) x) ∧ a[1]? = some (.sl 7 (segs.map Sgm.enc) y) ∧ a[2]? = some (.str fr) ∧ a[3]? = some (.str to) ∧ a[4]? = some (.int .i64 mo) ∧ a[12]? = some (dN) ∧ a[13]? = some (dO) ∧ a[15]? = some (.int .i64 i1) ∧ a[16]? = some (.int .i64 k) ∧ GL 1 encP T dN ns ∧ (∀ z ∈ ns, PJ T segs z) ∧ GL 1 encP T dO os ∧ (∀ z ∈ os, PJ T segs z) ∧ os.Pairwise (fun a b => ¬ ahd segs b.2 a.2) ∧ (os.map (·.2)).Perm (dfs l segs fr to i [] ++ ((ns.take k).map (·.2)).filter (endB segs to)) ∧ os.length ≤ 1024 + k) ns.length ?_ (by omega) ?_
    · simp (maxSteps := 1000000) (disch := omega) only [push_cast, ↓wc_seq, ↓wc_block, ↓wc_scope, ↓wc_condL, ↓wc_region, ↓wr_cons, ↓wr_consgL, ↓wr_nil, ↓wo_pickL, ↓wo_callf, ↓wc_exit, ↓wc_ret, ↓wc_skip, ↓wc_wl, wo_some, wo_none, wo_ite, opQ_eq, seqQ_normal, seqQ_exit, seqQ_ret, blockQ_normal, blockQ_exit, blockQ_ret, iterQ_normal, iterQ_exit, iterQ_ret, retQ_normal, retQ_ret, retQ_exit, pickC_true, pickC_false, pickO_true, pickO_false, gstep_tt, gstep_ff, gstep_tf, gstep_ft, gstep_skip, int_bne, int_beq, decide_not, Nat.reduceAdd, Nat.reduceMul, Nat.reduceSub, Nat.reducePow, Nat.reduceLT, Nat.reduceLeDiff, Nat.reduceEqDiff, Int.reduceToNat, Int.reduceAdd, Int.reduceSub, Int.reduceNeg, Int.reduceMul, Int.reduceLT, Int.reduceLE, Int.reduceEq, le_max, ↓wo_build, ↓wo_buildSlice, evParts, ↓reduceIte, planIds, hasExt, cntFs, idxFs, clnFs, ovlFs, List.contains_cons, List.contains_nil, List.any_cons, List.any_nil, Nat.reduceBEq, setC, List.length_set, decide_eq_true_eq, decide_eq_false_iff_not, true_implies, false_implies, forall_const, reduceCtorEq, eq_self, Int.natCast_nonneg, Int.toNat_natCast, Int.ofNat_lt, D.int.injEq, Option.some.injEq, Nat.zero_add, Nat.add_zero, bne_iff_ne, bne_eq_false_iff_eq, beq_iff_eq, beq_eq_false_iff_ne, gt_iff_lt, ne_eq, not_true_eq_false, not_false_eq_true, planIds, hasExt, cntFs, idxFs, clnFs, ovlFs, List.contains_cons, List.contains_nil, List.any_cons, List.any_nil, Nat.reduceBEq, Nat.reduceMul, Nat.reduceAdd, ↓reduceIte, hal, h0, h1, h2, h3, h4, h12, h13, h15, Int.natCast_zero]
      exact ⟨_, os, rfl, hg, hp, hgo, hpo, hso, by simpa using hos, by omega⟩
    clear hal h0 h1 h2 h3 h4 h12 h13 h15 a
    clear hg hp hgo hpo hso hos hol dO os T'
    rintro k a T hk ⟨dO, os, hal, h0, h1, h2, h3, h4, h12, h13, h15, h16, hg, hp, hgo, hpo, hso, hos, hol⟩
    rcases Nat.lt_or_eq_of_le hk with hkl | rfl
    case inr =>
      have hfin : (os.map (·.2)).Perm (dfs l segs fr to (i + 1) []) := by
        refine hos.trans ?_
        rw [List.take_length, hns]
        exact (dfs_lev i []).symm
      rcases hg with ⟨rfl, rfl⟩ | ⟨q, rfl, hq⟩
      · simp only [List.length_nil, Int.natCast_zero] at h16
        simp (maxSteps := 1000000) (disch := omega) only [push_cast, ↓wc_seq, ↓wc_block, ↓wc_scope, ↓wc_condL, ↓wc_region, ↓wr_cons, ↓wr_consgL, ↓wr_nil, ↓wo_pickL, ↓wo_callf, ↓wc_exit, ↓wc_ret, ↓wc_skip, ↓wc_wl, wo_some, wo_none, wo_ite, opQ_eq, seqQ_normal, seqQ_exit, seqQ_ret, blockQ_normal, blockQ_exit, blockQ_ret, iterQ_normal, iterQ_exit, iterQ_ret, retQ_normal, retQ_ret, retQ_exit, pickC_true, pickC_false, pickO_true, pickO_false, gstep_tt, gstep_ff, gstep_tf, gstep_ft, gstep_skip, int_bne, int_beq, decide_not, Nat.reduceAdd, Nat.reduceMul, Nat.reduceSub, Nat.reducePow, Nat.reduceLT, Nat.reduceLeDiff, Nat.reduceEqDiff, Int.reduceToNat, Int.reduceAdd, Int.reduceSub, Int.reduceNeg, Int.reduceMul, Int.reduceLT, Int.reduceLE, Int.reduceEq, le_max, ↓wo_build, ↓wo_buildSlice, evParts, ↓reduceIte, planIds, hasExt, cntFs, idxFs, clnFs, ovlFs, List.contains_cons, List.contains_nil, List.any_cons, List.any_nil, Nat.reduceBEq, setC, List.length_set, decide_eq_true_eq, decide_eq_false_iff_not, true_implies, false_implies, forall_const, reduceCtorEq, eq_self, Int.natCast_nonneg, Int.toNat_natCast, Int.ofNat_lt, D.int.injEq, Option.some.injEq, Nat.zero_add, Nat.add_zero, bne_iff_ne, bne_eq_false_iff_eq, beq_iff_eq, beq_eq_false_iff_ne, gt_iff_lt, ne_eq, not_true_eq_false, not_false_eq_true, planIds, hasExt, cntFs, idxFs, clnFs, ovlFs, List.contains_cons, List.contains_nil, List.any_cons, List.any_nil, Nat.reduceBEq, Nat.reduceMul, Nat.reduceAdd, ↓reduceIte, hal, h0, h1, h2, h3, h4, h12, h13, h15, h16, Int.lt_irrefl]
        exact ⟨dO, os, rfl, .inl ⟨rfl, rfl⟩, hp, hgo, hpo, hso, hfin, by simpa using hol⟩
      · simp (maxSteps := 1000000) (disch := omega) only [push_cast, ↓wc_seq, ↓wc_block, ↓wc_scope, ↓wc_condL, ↓wc_region, ↓wr_cons, ↓wr_consgL, ↓wr_nil, ↓wo_pickL, ↓wo_callf, ↓wc_exit, ↓wc_ret, ↓wc_skip, ↓wc_wl, wo_some, wo_none, wo_ite, opQ_eq, seqQ_normal, seqQ_exit, seqQ_ret, blockQ_normal, blockQ_exit, blockQ_ret, iterQ_normal, iterQ_exit, iterQ_ret, retQ_normal, retQ_ret, retQ_exit, pickC_true, pickC_false, pickO_true, pickO_false, gstep_tt, gstep_ff, gstep_tf, gstep_ft, gstep_skip, int_bne, int_beq, decide_not, Nat.reduceAdd, Nat.reduceMul, Nat.reduceSub, Nat.reducePow, Nat.reduceLT, Nat.reduceLeDiff, Nat.reduceEqDiff, Int.reduceToNat, Int.reduceAdd, Int.reduceSub, Int.reduceNeg, Int.reduceMul, Int.reduceLT, Int.reduceLE, Int.reduceEq, le_max, ↓wo_build, ↓wo_buildSlice, evParts, ↓reduceIte, planIds, hasExt, cntFs, idxFs, clnFs, ovlFs, List.contains_cons, List.contains_nil, List.any_cons, List.any_nil, Nat.reduceBEq, setC, List.length_set, decide_eq_true_eq, decide_eq_false_iff_not, true_implies, false_implies, forall_const, reduceCtorEq, eq_self, Int.natCast_nonneg, Int.toNat_natCast, Int.ofNat_lt, D.int.injEq, Option.some.injEq, Nat.zero_add, Nat.add_zero, bne_iff_ne, bne_eq_false_iff_eq, beq_iff_eq, beq_eq_false_iff_ne, gt_iff_lt, ne_eq, not_true_eq_false, not_false_eq_true, planIds, hasExt, cntFs, idxFs, clnFs, ovlFs, List.contains_cons, List.contains_nil, List.any_cons, List.any_nil, Nat.reduceBEq, Nat.reduceMul, Nat.reduceAdd, ↓reduceIte, hal, h0, h1, h2, h3, h4, h12, h13, h15, h16, Nat.lt_irrefl]
        exact ⟨dO, os, rfl, .inr ⟨q, rfl, hq⟩, hp, hgo, hpo, hso, hfin, hol⟩
    have hg0 := hg
    rcases hg with ⟨rfl, rfl⟩ | ⟨q, rfl, hq⟩
    · simp at hkl
    obtain ⟨z, hz⟩ : ∃ z, ns[k]? = some z := ⟨ns[k], by simp⟩
    have pz := hp z (List.mem_of_getElem? hz)
    have zl := hlen z (List.mem_of_getElem? hz)
    obtain ⟨j, hj⟩ : ∃ j, z.2[i]? = some j := ⟨z.2[i]'(by omega), by simp⟩
    have hjl := pz.ind j (List.mem_of_getElem? hj)
    obtain ⟨s, hsj⟩ : ∃ s, segs[j]? = some s := ⟨segs[j], by simp⟩
    have hil : i < z.2.length := by omega
    have w1 : IntKind.i64.wrap (i1 - 1) = (i : Int) := by rw [wrap_ok (by omega) (by omega)]; omega
    have w2 : IntKind.i64.wrap ((k : Int) + 1) = (k : Int) + 1 := wrap_ok (by omega) (by omega)
    have he : endB segs to z.2 = (s.t.toList == to.toList) := by
      unfold endB
      rw [zl, Nat.add_sub_cancel, hj]
      simp only [tAt, hsj]
    have htk : (ns.take (k + 1)).map (·.2) = (ns.take k).map (·.2) ++ [z.2] := by
      rw [List.take_add_one, hz]; simp
    obtain ⟨dO', T5, ci, o1, o2, ho, g5, x5, y1, y2⟩ := insert_d (n := n') (x := z.1) (y := y) hgo hpo pz (by omega) (by omega)
    rw [← hn'] at ci
    replace ci := cgen (f := 47) rfl ci
    have hp5 : ∀ w ∈ o1 ++ z :: o2, PJ T5 segs w := fun w hw => by
      rcases List.mem_append.1 hw with h | h
      · exact (hpo w (by rw [ho]; exact List.mem_append.2 (.inl h))).ext x5
      · rcases List.mem_cons.1 h with rfl | h
        · exact pz.ext x5
        · exact (hpo w (by rw [ho]; exact List.mem_append.2 (.inr h))).ext x5
    have hs5 : (o1 ++ z :: o2).Pairwise fun a b => ¬ ahd segs b.2 a.2 := ins_sorted (f := fun z : D × List Nat => z.2) (by rw [← ho]; exact hso) y1 y2
    have hl5 : (o1 ++ z :: o2).length = os.length + 1 := by rw [ho]; simp; omega
    have hpm : ((o1 ++ z :: o2).map (·.2)).Perm (os.map (·.2) ++ [z.2]) := by
      rw [ho, List.map_append, List.map_append, List.map_cons, List.append_assoc]
      exact (List.perm_append_singleton _ _).symm.append_left _
    rcases pz.pq.two with ⟨hz1, hx1⟩ | ⟨k', hz1, hx1⟩
    all_goals
      cases e : (s.t.toList == to.toList)
      · simp (maxSteps := 1000000) (disch := omega) only [push_cast, ↓wc_seq, ↓wc_block, ↓wc_scope, ↓wc_condL, ↓wc_region, ↓wr_cons, ↓wr_consgL, ↓wr_nil, ↓wo_pickL, ↓wo_callf, ↓wc_exit, ↓wc_ret, ↓wc_skip, ↓wc_wl, wo_some, wo_none, wo_ite, opQ_eq, seqQ_normal, seqQ_exit, seqQ_ret, blockQ_normal, blockQ_exit, blockQ_ret, iterQ_normal, iterQ_exit, iterQ_ret, retQ_normal, retQ_ret, retQ_exit, pickC_true, pickC_false, pickO_true, pickO_false, gstep_tt, gstep_ff, gstep_tf, gstep_ft, gstep_skip, int_bne, int_beq, decide_not, Nat.reduceAdd, Nat.reduceMul, Nat.reduceSub, Nat.reducePow, Nat.reduceLT, Nat.reduceLeDiff, Nat.reduceEqDiff, Int.reduceToNat, Int.reduceAdd, Int.reduceSub, Int.reduceNeg, Int.reduceMul, Int.reduceLT, Int.reduceLE, Int.reduceEq, le_max, ↓wo_build, ↓wo_buildSlice, evParts, ↓reduceIte, planIds, hasExt, cntFs, idxFs, clnFs, ovlFs, List.contains_cons, List.contains_nil, List.any_cons, List.any_nil, Nat.reduceBEq, setC, List.length_set, decide_eq_true_eq, decide_eq_false_iff_not, true_implies, false_implies, forall_const, reduceCtorEq, eq_self, Int.natCast_nonneg, Int.toNat_natCast, Int.ofNat_lt, D.int.injEq, Option.some.injEq, Nat.zero_add, Nat.add_zero, bne_iff_ne, bne_eq_false_iff_eq, beq_iff_eq, beq_eq_false_iff_ne, gt_iff_lt, ne_eq, not_true_eq_false, not_false_eq_true, planIds, hasExt, cntFs, idxFs, clnFs, ovlFs, List.contains_cons, List.contains_nil, List.any_cons, List.any_nil, Nat.reduceBEq, Nat.reduceMul, Nat.reduceAdd, ↓reduceIte, hal, h0, h1, h2, h3, h4, h12, h13, h15, h16, hkl, hq, hx1, List.length_map, List.getElem?_map, hz, hz1, hil, hj, hjl, hsj, sge, e, w1, w2, Int.natCast_add, Int.natCast_one]
        exact ⟨dO, os, rfl, hg0, hp, hgo, hpo, hso, by rw [htk, List.filter_append, List.filter_cons, he, e]; simpa using hos, by omega⟩
      · rw [hz1] at ci
        simp (maxSteps := 1000000) (disch := omega) only [push_cast, ↓wc_seq, ↓wc_block, ↓wc_scope, ↓wc_condL, ↓wc_region, ↓wr_cons, ↓wr_consgL, ↓wr_nil, ↓wo_pickL, ↓wo_callf, ↓wc_exit, ↓wc_ret, ↓wc_skip, ↓wc_wl, wo_some, wo_none, wo_ite, opQ_eq, seqQ_normal, seqQ_exit, seqQ_ret, blockQ_normal, blockQ_exit, blockQ_ret, iterQ_normal, iterQ_exit, iterQ_ret, retQ_normal, retQ_ret, retQ_exit, pickC_true, pickC_false, pickO_true, pickO_false, gstep_tt, gstep_ff, gstep_tf, gstep_ft, gstep_skip, int_bne, int_beq, decide_not, Nat.reduceAdd, Nat.reduceMul, Nat.reduceSub, Nat.reducePow, Nat.reduceLT, Nat.reduceLeDiff, Nat.reduceEqDiff, Int.reduceToNat, Int.reduceAdd, Int.reduceSub, Int.reduceNeg, Int.reduceMul, Int.reduceLT, Int.reduceLE, Int.reduceEq, le_max, ↓wo_build, ↓wo_buildSlice, evParts, ↓reduceIte, planIds, hasExt, cntFs, idxFs, clnFs, ovlFs, List.contains_cons, List.contains_nil, List.any_cons, List.any_nil, Nat.reduceBEq, setC, List.length_set, decide_eq_true_eq, decide_eq_false_iff_not, true_implies, false_implies, forall_const, reduceCtorEq, eq_self, Int.natCast_nonneg, Int.toNat_natCast, Int.ofNat_lt, D.int.injEq, Option.some.injEq, Nat.zero_add, Nat.add_zero, bne_iff_ne, bne_eq_false_iff_eq, beq_iff_eq, beq_eq_false_iff_ne, gt_iff_lt, ne_eq, not_true_eq_false, not_false_eq_true, planIds, hasExt, cntFs, idxFs, clnFs, ovlFs, List.contains_cons, List.contains_nil, List.any_cons, List.any_nil, Nat.reduceBEq, Nat.reduceMul, Nat.reduceAdd, ↓reduceIte, hal, h0, h1, h2, h3, h4, h12, h13, h15, h16, hkl, hq, hx1, List.length_map, List.getElem?_map, hz, hz1, hil, hj, hjl, hsj, sge, e, ci, w1, w2, Int.natCast_add, Int.natCast_one]
        refine ⟨dO', _, rfl, hg0.ext x5, fun w hw => (hp w hw).ext x5, g5, hp5, hs5, ?_, by rw [hl5]; omega⟩
        rw [htk, List.filter_append, List.filter_cons, he, e]
        refine hpm.trans ?_
        rw [← List.append_assoc]
        exact hos.append_right _
  clear hal h0 h1 h2 h3 h4 h12 h13 h15 a
  clear hg hp hgo hpo hso hos hol dO os T'
  rintro a T ⟨dO, os, hal, h0, h1, h2, h3, h4, h12, h13, h15, hg, hp, hgo, hpo, hso, hos, hol⟩
  have w3 : IntKind.i64.wrap (i1 + 1) = ((i + 1 + 1 : Nat) : Int) := by rw [wrap_ok (by omega) (by omega)]; omega
  by_cases q3 : 1024 < os.length
  · have hbig : 1024 < (dfs l segs fr to (m + 1) []).length := by
      have h1 := hos.length_eq
      rw [List.length_map] at h1
      have := dfs_mono (l := l) (segs := segs) (fr := fr) (to := to) (a := i + 1) (b := m + 1) (by omega)
      omega
    have q3' : (1024 : Int) < (os.length : Int) := by omega
    rcases hgo with ⟨rfl, rfl⟩ | ⟨q, rfl, hq⟩
    · simp at q3
    · simp (maxSteps := 1000000) (disch := omega) only [push_cast, ↓wc_seq, ↓wc_block, ↓wc_scope, ↓wc_condL, ↓wc_region, ↓wr_cons, ↓wr_consgL, ↓wr_nil, ↓wo_pickL, ↓wo_callf, ↓wc_exit, ↓wc_ret, ↓wc_skip, ↓wc_wl, wo_some, wo_none, wo_ite, opQ_eq, seqQ_normal, seqQ_exit, seqQ_ret, blockQ_normal, blockQ_exit, blockQ_ret, iterQ_normal, iterQ_exit, iterQ_ret, retQ_normal, retQ_ret, retQ_exit, pickC_true, pickC_false, pickO_true, pickO_false, gstep_tt, gstep_ff, gstep_tf, gstep_ft, gstep_skip, int_bne, int_beq, decide_not, Nat.reduceAdd, Nat.reduceMul, Nat.reduceSub, Nat.reducePow, Nat.reduceLT, Nat.reduceLeDiff, Nat.reduceEqDiff, Int.reduceToNat, Int.reduceAdd, Int.reduceSub, Int.reduceNeg, Int.reduceMul, Int.reduceLT, Int.reduceLE, Int.reduceEq, le_max, ↓wo_build, ↓wo_buildSlice, evParts, ↓reduceIte, planIds, hasExt, cntFs, idxFs, clnFs, ovlFs, List.contains_cons, List.contains_nil, List.any_cons, List.any_nil, Nat.reduceBEq, setC, List.length_set, decide_eq_true_eq, decide_eq_false_iff_not, true_implies, false_implies, forall_const, reduceCtorEq, eq_self, Int.natCast_nonneg, Int.toNat_natCast, Int.ofNat_lt, D.int.injEq, Option.some.injEq, Nat.zero_add, Nat.add_zero, bne_iff_ne, bne_eq_false_iff_eq, beq_iff_eq, beq_eq_false_iff_ne, gt_iff_lt, ne_eq, not_true_eq_false, not_false_eq_true, planIds, hasExt, cntFs, idxFs, clnFs, ovlFs, List.contains_cons, List.contains_nil, List.any_cons, List.any_nil, Nat.reduceBEq, Nat.reduceMul, Nat.reduceAdd, ↓reduceIte, hal, h0, h1, h2, h3, h4, h12, h13, h15, q3', gt_iff_lt, Tryd.f21]
      exact .inr ⟨m, hm, hm2, .inl ⟨hbig, rfl⟩⟩
  have q3' : ¬ (1024 : Int) < (os.length : Int) := by omega
  refine wc_scut (fun a T' => T' = T ∧ a.length = 94 ∧ a[0]? = some (.sl 4 (l.map Cnn.enc) x) ∧ a[1]? = some (.sl 7 (segs.map Sgm.enc) y) ∧ a[2]? = some (.str fr) ∧ a[3]? = some (.str to) ∧ a[4]? = some (.int .i64 mo) ∧ a[12]? = some (dN) ∧ a[13]? = some (dO) ∧ a[15]? = some (.int .i64 i1)) ?_ ?_
  · rcases hgo with ⟨rfl, rfl⟩ | ⟨q, rfl, hq⟩
    · simp (maxSteps := 1000000) (disch := omega) only [push_cast, ↓wc_seq, ↓wc_block, ↓wc_scope, ↓wc_condL, ↓wc_region, ↓wr_cons, ↓wr_consgL, ↓wr_nil, ↓wo_pickL, ↓wo_callf, ↓wc_exit, ↓wc_ret, ↓wc_skip, ↓wc_wl, wo_some, wo_none, wo_ite, opQ_eq, seqQ_normal, seqQ_exit, seqQ_ret, blockQ_normal, blockQ_exit, blockQ_ret, iterQ_normal, iterQ_exit, iterQ_ret, retQ_normal, retQ_ret, retQ_exit, pickC_true, pickC_false, pickO_true, pickO_false, gstep_tt, gstep_ff, gstep_tf, gstep_ft, gstep_skip, int_bne, int_beq, decide_not, Nat.reduceAdd, Nat.reduceMul, Nat.reduceSub, Nat.reducePow, Nat.reduceLT, Nat.reduceLeDiff, Nat.reduceEqDiff, Int.reduceToNat, Int.reduceAdd, Int.reduceSub, Int.reduceNeg, Int.reduceMul, Int.reduceLT, Int.reduceLE, Int.reduceEq, le_max, ↓wo_build, ↓wo_buildSlice, evParts, ↓reduceIte, planIds, hasExt, cntFs, idxFs, clnFs, ovlFs, List.contains_cons, List.contains_nil, List.any_cons, List.any_nil, Nat.reduceBEq, setC, List.length_set, decide_eq_true_eq, decide_eq_false_iff_not, true_implies, false_implies, forall_const, reduceCtorEq, eq_self, Int.natCast_nonneg, Int.toNat_natCast, Int.ofNat_lt, D.int.injEq, Option.some.injEq, Nat.zero_add, Nat.add_zero, bne_iff_ne, bne_eq_false_iff_eq, beq_iff_eq, beq_eq_false_iff_ne, gt_iff_lt, ne_eq, not_true_eq_false, not_false_eq_true, planIds, hasExt, cntFs, idxFs, clnFs, ovlFs, List.contains_cons, List.contains_nil, List.any_cons, List.any_nil, Nat.reduceBEq, Nat.reduceMul, Nat.reduceAdd, ↓reduceIte, hal, h0, h1, h2, h3, h4, h12, h13, h15]
    · simp (maxSteps := 1000000) (disch := omega) only [push_cast, ↓wc_seq, ↓wc_block, ↓wc_scope, ↓wc_condL, ↓wc_region, ↓wr_cons, ↓wr_consgL, ↓wr_nil, ↓wo_pickL, ↓wo_callf, ↓wc_exit, ↓wc_ret, ↓wc_skip, ↓wc_wl, wo_some, wo_none, wo_ite, opQ_eq, seqQ_normal, seqQ_exit, seqQ_ret, blockQ_normal, blockQ_exit, blockQ_ret, iterQ_normal, iterQ_exit, iterQ_ret, retQ_normal, retQ_ret, retQ_exit, pickC_true, pickC_false, pickO_true, pickO_false, gstep_tt, gstep_ff, gstep_tf, gstep_ft, gstep_skip, int_bne, int_beq, decide_not, Nat.reduceAdd, Nat.reduceMul, Nat.reduceSub, Nat.reducePow, Nat.reduceLT, Nat.reduceLeDiff, Nat.reduceEqDiff, Int.reduceToNat, Int.reduceAdd, Int.reduceSub, Int.reduceNeg, Int.reduceMul, Int.reduceLT, Int.reduceLE, Int.reduceEq, le_max, ↓wo_build, ↓wo_buildSlice, evParts, ↓reduceIte, planIds, hasExt, cntFs, idxFs, clnFs, ovlFs, List.contains_cons, List.contains_nil, List.any_cons, List.any_nil, Nat.reduceBEq, setC, List.length_set, decide_eq_true_eq, decide_eq_false_iff_not, true_implies, false_implies, forall_const, reduceCtorEq, eq_self, Int.natCast_nonneg, Int.toNat_natCast, Int.ofNat_lt, D.int.injEq, Option.some.injEq, Nat.zero_add, Nat.add_zero, bne_iff_ne, bne_eq_false_iff_eq, beq_iff_eq, beq_eq_false_iff_ne, gt_iff_lt, ne_eq, not_true_eq_false, not_false_eq_true, planIds, hasExt, cntFs, idxFs, clnFs, ovlFs, List.contains_cons, List.contains_nil, List.any_cons, List.any_nil, Nat.reduceBEq, Nat.reduceMul, Nat.reduceAdd, ↓reduceIte, hal, h0, h1, h2, h3, h4, h12, h13, h15, q3', gt_iff_lt]
  clear hal h0 h1 h2 h3 h4 h12 h13 h15 a
  rintro a T' ⟨rfl, hal, h0, h1, h2, h3, h4, h12, h13, h15⟩
  by_cases q4 : i < m
  · have q4' : i1 < mo := by omega
    obtain ⟨dN', T5, ci, rs, g5, p5, x5, r5, l5⟩ := longer_d (n := n') (fr := fr) (x := x) (y := y) (l := l) (by have := hnb.2 q4; omega) hll hsl near hg hp (fun z hz => by rw [hlen z hz]; omega) (by have := hnb.2 q4; omega)
    rw [← hn'] at ci
    replace ci := cgen (f := 48) rfl ci
    simp (maxSteps := 1000000) (disch := omega) only [push_cast, ↓wc_seq, ↓wc_block, ↓wc_scope, ↓wc_condL, ↓wc_region, ↓wr_cons, ↓wr_consgL, ↓wr_nil, ↓wo_pickL, ↓wo_callf, ↓wc_exit, ↓wc_ret, ↓wc_skip, ↓wc_wl, wo_some, wo_none, wo_ite, opQ_eq, seqQ_normal, seqQ_exit, seqQ_ret, blockQ_normal, blockQ_exit, blockQ_ret, iterQ_normal, iterQ_exit, iterQ_ret, retQ_normal, retQ_ret, retQ_exit, pickC_true, pickC_false, pickO_true, pickO_false, gstep_tt, gstep_ff, gstep_tf, gstep_ft, gstep_skip, int_bne, int_beq, decide_not, Nat.reduceAdd, Nat.reduceMul, Nat.reduceSub, Nat.reducePow, Nat.reduceLT, Nat.reduceLeDiff, Nat.reduceEqDiff, Int.reduceToNat, Int.reduceAdd, Int.reduceSub, Int.reduceNeg, Int.reduceMul, Int.reduceLT, Int.reduceLE, Int.reduceEq, le_max, ↓wo_build, ↓wo_buildSlice, evParts, ↓reduceIte, planIds, hasExt, cntFs, idxFs, clnFs, ovlFs, List.contains_cons, List.contains_nil, List.any_cons, List.any_nil, Nat.reduceBEq, setC, List.length_set, decide_eq_true_eq, decide_eq_false_iff_not, true_implies, false_implies, forall_const, reduceCtorEq, eq_self, Int.natCast_nonneg, Int.toNat_natCast, Int.ofNat_lt, D.int.injEq, Option.some.injEq, Nat.zero_add, Nat.add_zero, bne_iff_ne, bne_eq_false_iff_eq, beq_iff_eq, beq_eq_false_iff_ne, gt_iff_lt, ne_eq, not_true_eq_false, not_false_eq_true, planIds, hasExt, cntFs, idxFs, clnFs, ovlFs, List.contains_cons, List.contains_nil, List.any_cons, List.any_nil, Nat.reduceBEq, Nat.reduceMul, Nat.reduceAdd, ↓reduceIte, hal, h0, h1, h2, h3, h4, h12, h13, h15, q4', ci, w3]
    refine ⟨hlt, dN', rs, dO, os, rfl, rfl, g5, p5, hgo.ext x5, fun z hz => (hpo z hz).ext x5, hso, fun _ => ?_, ?_, hos, by omega⟩
    · rw [r5, hns, levF_succ (i + 1)]
    · rw [Nat.pow_succ]; omega
  · have q4' : ¬ i1 < mo := by omega
    simp (maxSteps := 1000000) (disch := omega) only [push_cast, ↓wc_seq, ↓wc_block, ↓wc_scope, ↓wc_condL, ↓wc_region, ↓wr_cons, ↓wr_consgL, ↓wr_nil, ↓wo_pickL, ↓wo_callf, ↓wc_exit, ↓wc_ret, ↓wc_skip, ↓wc_wl, wo_some, wo_none, wo_ite, opQ_eq, seqQ_normal, seqQ_exit, seqQ_ret, blockQ_normal, blockQ_exit, blockQ_ret, iterQ_normal, iterQ_exit, iterQ_ret, retQ_normal, retQ_ret, retQ_exit, pickC_true, pickC_false, pickO_true, pickO_false, gstep_tt, gstep_ff, gstep_tf, gstep_ft, gstep_skip, int_bne, int_beq, decide_not, Nat.reduceAdd, Nat.reduceMul, Nat.reduceSub, Nat.reducePow, Nat.reduceLT, Nat.reduceLeDiff, Nat.reduceEqDiff, Int.reduceToNat, Int.reduceAdd, Int.reduceSub, Int.reduceNeg, Int.reduceMul, Int.reduceLT, Int.reduceLE, Int.reduceEq, le_max, ↓wo_build, ↓wo_buildSlice, evParts, ↓reduceIte, planIds, hasExt, cntFs, idxFs, clnFs, ovlFs, List.contains_cons, List.contains_nil, List.any_cons, List.any_nil, Nat.reduceBEq, setC, List.length_set, decide_eq_true_eq, decide_eq_false_iff_not, true_implies, false_implies, forall_const, reduceCtorEq, eq_self, Int.natCast_nonneg, Int.toNat_natCast, Int.ofNat_lt, D.int.injEq, Option.some.injEq, Nat.zero_add, Nat.add_zero, bne_iff_ne, bne_eq_false_iff_eq, beq_iff_eq, beq_eq_false_iff_ne, gt_iff_lt, ne_eq, not_true_eq_false, not_false_eq_true, planIds, hasExt, cntFs, idxFs, clnFs, ovlFs, List.contains_cons, List.contains_nil, List.any_cons, List.any_nil, Nat.reduceBEq, Nat.reduceMul, Nat.reduceAdd, ↓reduceIte, hal, h0, h1, h2, h3, h4, h12, h13, h15, q4', w3]
    exact ⟨hlt, dN, ns, dO, os, rfl, rfl, hg, hp, hgo, hpo, hso, fun h => by omega, by rw [Nat.pow_succ]; omega, hos, by omega⟩

/-- Journeys as they are handed back: each with its own flag. -/
abbrev fD (q : List Nat × Bool) : List D := [.sl 1 (q.1.map fun a => [intV a]) q.2]
def FR (d : D) (qs : List (List Nat × Bool)) : Prop := (d = .nils ∧ qs = []) ∨ d = .sl 1 (qs.map fD) false
theorem fD_pure (qs : List (List Nat × Bool)) : pureLL (qs.map fD) = true := by
  induction qs with
  | nil => rfl
  | cons f fs ih => rw [List.map_cons, pureLL_cons, ih]; simp [pureL_cons, pureL_nil, D.pure, ints_pure]
theorem FR.pure {d : D} {qs : List (List Nat × Bool)} (h : FR d qs) : d.pure = true := by
  rcases h with ⟨rfl, -⟩ | rfl
  · rfl
  · exact fD_pure qs
theorem freeze_pj {T : List Ob} {d : D} {segs : List Sgm} {o : List (D × List Nat)} (h : GL 1 encP T d o) (hr : ∀ q ∈ o, PJ T segs q) : ∃ d' qs, freeze T 39 d = some d' ∧ FR d' qs ∧ qs.map (·.1) = o.map (·.2) := by
  rcases h with ⟨rfl, rfl⟩ | ⟨k, rfl, hk⟩
  · exact ⟨.nils, [], rfl, .inl ⟨rfl, rfl⟩, rfl⟩
  · have key : ∀ o : List (D × List Nat), (∀ q ∈ o, PJ T segs q) → ∃ qs : List (List Nat × Bool), mapO (mapO (freeze T 38)) (o.map encP) = some (qs.map fD) ∧ qs.map (·.1) = o.map (·.2) := by
      intro o
      induction o with
      | nil => intro _; exact ⟨[], rfl, rfl⟩
      | cons q o ih =>
        intro h
        obtain ⟨qs, h1, h2⟩ := ih fun q hq => h q (by simp [hq])
        obtain ⟨b, hb⟩ : ∃ b, freeze T 38 q.1 = some (.sl 1 (q.2.map fun a => [intV a]) b) := by
          rcases (h q (by simp)).pq with hq | ⟨k, hq, hk⟩
          · rw [hq]
            exact ⟨true, freeze_pure (ints_pure q.2)⟩
          · rw [hq]
            have h1 := freeze_os (n := 36) (x := false) hk (ints_pure q.2)
            rw [List.length_map] at h1
            exact ⟨_, h1⟩
        refine ⟨(q.2, b) :: qs, ?_, by simp [h2]⟩
        simp only [List.map_cons, mapO, hb, h1]
    obtain ⟨qs, h1, h2⟩ := key o hr
    refine ⟨.sl 1 (qs.map fD) false, qs, ?_, .inr rfl, h2⟩
    unfold freeze
    rw [if_neg (by simp [D.pure])]
    dsimp only
    rw [hk]
    dsimp only
    have hl : (o.map encP).length = o.length := by simp
    rw [if_pos (by omega), List.drop_zero, ← hl, List.take_length, h1]
    rfl
set_option maxHeartbeats 8000000 in
set_option maxRecDepth 100000 in
/-- Same answers true at lists of the same journeys. -/
theorem Same_d {n : Nat} {d e : D} {ps qs : List (List Nat × Bool)} (h : FR d ps) (g : FR e qs) (he : ps.map (·.1) = qs.map (·.1)) (hl : ps.length ≤ 2000) (hlen : ∀ q ∈ ps, q.1.length ≤ 100) (hn : ps.length + 200 < n) :
    WO (dcall E (n + 1) 22 [d, e] []) fun r _ => r = .bool true := by
  have hll : ps.length = qs.length := by simpa using congrArg List.length he
  refine wo_dcall Tryd.func22 rfl (by decide) rfl 53 rfl (fun a hal ha => ?_)
  have h0 : a[0]? = some (d) := ha 0 (by simp)
  have h1 : a[1]? = some (e) := ha 1 (by simp)
  clear ha
  rcases h with ⟨rfl, rfl⟩ | rfl
  · have hq0 : qs = [] := by
      rcases qs with _ | ⟨u, v⟩
      · rfl
      · simp at hll
    rcases g with ⟨rfl, -⟩ | rfl
    · simp (maxSteps := 1000000) (disch := omega) only [push_cast, ↓wc_seq, ↓wc_block, ↓wc_scope, ↓wc_condL, ↓wc_region, ↓wr_cons, ↓wr_consgL, ↓wr_nil, ↓wo_pickL, ↓wo_callf, ↓wc_exit, ↓wc_ret, ↓wc_skip, ↓wc_wl, wo_some, wo_none, wo_ite, opQ_eq, seqQ_normal, seqQ_exit, seqQ_ret, blockQ_normal, blockQ_exit, blockQ_ret, iterQ_normal, iterQ_exit, iterQ_ret, retQ_normal, retQ_ret, retQ_exit, pickC_true, pickC_false, pickO_true, pickO_false, gstep_tt, gstep_ff, gstep_tf, gstep_ft, gstep_skip, int_bne, int_beq, decide_not, Nat.reduceAdd, Nat.reduceMul, Nat.reduceSub, Nat.reducePow, Nat.reduceLT, Nat.reduceLeDiff, Nat.reduceEqDiff, Int.reduceToNat, Int.reduceAdd, Int.reduceSub, Int.reduceNeg, Int.reduceMul, Int.reduceLT, Int.reduceLE, Int.reduceEq, le_max, ↓wo_build, ↓wo_buildSlice, evParts, ↓reduceIte, planIds, hasExt, cntFs, idxFs, clnFs, ovlFs, List.contains_cons, List.contains_nil, List.any_cons, List.any_nil, Nat.reduceBEq, setC, List.length_set, decide_eq_true_eq, decide_eq_false_iff_not, true_implies, false_implies, forall_const, reduceCtorEq, eq_self, Int.natCast_nonneg, Int.toNat_natCast, Int.ofNat_lt, D.int.injEq, Option.some.injEq, Nat.zero_add, Nat.add_zero, bne_iff_ne, bne_eq_false_iff_eq, beq_iff_eq, beq_eq_false_iff_ne, gt_iff_lt, ne_eq, not_true_eq_false, not_false_eq_true, planIds, hasExt, cntFs, idxFs, clnFs, ovlFs, List.contains_cons, List.contains_nil, List.any_cons, List.any_nil, Nat.reduceBEq, Nat.reduceMul, Nat.reduceAdd, ↓reduceIte, hal, h0, h1]
      refine wl_loop (fun _ a T => a.length = 53 ∧ a[0]? = some .nils ∧ a[1]? = some .nils ∧ a[5]? = some (.int .i64 0)) 0 ?_ (by omega) ?_
      · simp (maxSteps := 1000000) (disch := omega) only [push_cast, ↓wc_seq, ↓wc_block, ↓wc_scope, ↓wc_condL, ↓wc_region, ↓wr_cons, ↓wr_consgL, ↓wr_nil, ↓wo_pickL, ↓wo_callf, ↓wc_exit, ↓wc_ret, ↓wc_skip, ↓wc_wl, wo_some, wo_none, wo_ite, opQ_eq, seqQ_normal, seqQ_exit, seqQ_ret, blockQ_normal, blockQ_exit, blockQ_ret, iterQ_normal, iterQ_exit, iterQ_ret, retQ_normal, retQ_ret, retQ_exit, pickC_true, pickC_false, pickO_true, pickO_false, gstep_tt, gstep_ff, gstep_tf, gstep_ft, gstep_skip, int_bne, int_beq, decide_not, Nat.reduceAdd, Nat.reduceMul, Nat.reduceSub, Nat.reducePow, Nat.reduceLT, Nat.reduceLeDiff, Nat.reduceEqDiff, Int.reduceToNat, Int.reduceAdd, Int.reduceSub, Int.reduceNeg, Int.reduceMul, Int.reduceLT, Int.reduceLE, Int.reduceEq, le_max, ↓wo_build, ↓wo_buildSlice, evParts, ↓reduceIte, planIds, hasExt, cntFs, idxFs, clnFs, ovlFs, List.contains_cons, List.contains_nil, List.any_cons, List.any_nil, Nat.reduceBEq, setC, List.length_set, decide_eq_true_eq, decide_eq_false_iff_not, true_implies, false_implies, forall_const, reduceCtorEq, eq_self, Int.natCast_nonneg, Int.toNat_natCast, Int.ofNat_lt, D.int.injEq, Option.some.injEq, Nat.zero_add, Nat.add_zero, bne_iff_ne, bne_eq_false_iff_eq, beq_iff_eq, beq_eq_false_iff_ne, gt_iff_lt, ne_eq, not_true_eq_false, not_false_eq_true, planIds, hasExt, cntFs, idxFs, clnFs, ovlFs, List.contains_cons, List.contains_nil, List.any_cons, List.any_nil, Nat.reduceBEq, Nat.reduceMul, Nat.reduceAdd, ↓reduceIte, hal, h0, h1]
      clear hal h0 h1 a
      rintro i a T _ ⟨hal, h0, h1, h5⟩
      simp (maxSteps := 1000000) (disch := omega) only [push_cast, ↓wc_seq, ↓wc_block, ↓wc_scope, ↓wc_condL, ↓wc_region, ↓wr_cons, ↓wr_consgL, ↓wr_nil, ↓wo_pickL, ↓wo_callf, ↓wc_exit, ↓wc_ret, ↓wc_skip, ↓wc_wl, wo_some, wo_none, wo_ite, opQ_eq, seqQ_normal, seqQ_exit, seqQ_ret, blockQ_normal, blockQ_exit, blockQ_ret, iterQ_normal, iterQ_exit, iterQ_ret, retQ_normal, retQ_ret, retQ_exit, pickC_true, pickC_false, pickO_true, pickO_false, gstep_tt, gstep_ff, gstep_tf, gstep_ft, gstep_skip, int_bne, int_beq, decide_not, Nat.reduceAdd, Nat.reduceMul, Nat.reduceSub, Nat.reducePow, Nat.reduceLT, Nat.reduceLeDiff, Nat.reduceEqDiff, Int.reduceToNat, Int.reduceAdd, Int.reduceSub, Int.reduceNeg, Int.reduceMul, Int.reduceLT, Int.reduceLE, Int.reduceEq, le_max, ↓wo_build, ↓wo_buildSlice, evParts, ↓reduceIte, planIds, hasExt, cntFs, idxFs, clnFs, ovlFs, List.contains_cons, List.contains_nil, List.any_cons, List.any_nil, Nat.reduceBEq, setC, List.length_set, decide_eq_true_eq, decide_eq_false_iff_not, true_implies, false_implies, forall_const, reduceCtorEq, eq_self, Int.natCast_nonneg, Int.toNat_natCast, Int.ofNat_lt, D.int.injEq, Option.some.injEq, Nat.zero_add, Nat.add_zero, bne_iff_ne, bne_eq_false_iff_eq, beq_iff_eq, beq_eq_false_iff_ne, gt_iff_lt, ne_eq, not_true_eq_false, not_false_eq_true, planIds, hasExt, cntFs, idxFs, clnFs, ovlFs, List.contains_cons, List.contains_nil, List.any_cons, List.any_nil, Nat.reduceBEq, Nat.reduceMul, Nat.reduceAdd, ↓reduceIte, hal, h0, h1, h5, Int.lt_irrefl, Tryd.f22]
    · subst hq0
      simp (maxSteps := 1000000) (disch := omega) only [push_cast, ↓wc_seq, ↓wc_block, ↓wc_scope, ↓wc_condL, ↓wc_region, ↓wr_cons, ↓wr_consgL, ↓wr_nil, ↓wo_pickL, ↓wo_callf, ↓wc_exit, ↓wc_ret, ↓wc_skip, ↓wc_wl, wo_some, wo_none, wo_ite, opQ_eq, seqQ_normal, seqQ_exit, seqQ_ret, blockQ_normal, blockQ_exit, blockQ_ret, iterQ_normal, iterQ_exit, iterQ_ret, retQ_normal, retQ_ret, retQ_exit, pickC_true, pickC_false, pickO_true, pickO_false, gstep_tt, gstep_ff, gstep_tf, gstep_ft, gstep_skip, int_bne, int_beq, decide_not, Nat.reduceAdd, Nat.reduceMul, Nat.reduceSub, Nat.reducePow, Nat.reduceLT, Nat.reduceLeDiff, Nat.reduceEqDiff, Int.reduceToNat, Int.reduceAdd, Int.reduceSub, Int.reduceNeg, Int.reduceMul, Int.reduceLT, Int.reduceLE, Int.reduceEq, le_max, ↓wo_build, ↓wo_buildSlice, evParts, ↓reduceIte, planIds, hasExt, cntFs, idxFs, clnFs, ovlFs, List.contains_cons, List.contains_nil, List.any_cons, List.any_nil, Nat.reduceBEq, setC, List.length_set, decide_eq_true_eq, decide_eq_false_iff_not, true_implies, false_implies, forall_const, reduceCtorEq, eq_self, Int.natCast_nonneg, Int.toNat_natCast, Int.ofNat_lt, D.int.injEq, Option.some.injEq, Nat.zero_add, Nat.add_zero, bne_iff_ne, bne_eq_false_iff_eq, beq_iff_eq, beq_eq_false_iff_ne, gt_iff_lt, ne_eq, not_true_eq_false, not_false_eq_true, planIds, hasExt, cntFs, idxFs, clnFs, ovlFs, List.contains_cons, List.contains_nil, List.any_cons, List.any_nil, Nat.reduceBEq, Nat.reduceMul, Nat.reduceAdd, ↓reduceIte, hal, h0, h1, List.map_nil, List.length_nil, Int.natCast_zero]
      refine wl_loop (fun _ a T => a.length = 53 ∧ a[0]? = some .nils ∧ a[5]? = some (.int .i64 0)) 0 ?_ (by omega) ?_
      · simp (maxSteps := 1000000) (disch := omega) only [push_cast, ↓wc_seq, ↓wc_block, ↓wc_scope, ↓wc_condL, ↓wc_region, ↓wr_cons, ↓wr_consgL, ↓wr_nil, ↓wo_pickL, ↓wo_callf, ↓wc_exit, ↓wc_ret, ↓wc_skip, ↓wc_wl, wo_some, wo_none, wo_ite, opQ_eq, seqQ_normal, seqQ_exit, seqQ_ret, blockQ_normal, blockQ_exit, blockQ_ret, iterQ_normal, iterQ_exit, iterQ_ret, retQ_normal, retQ_ret, retQ_exit, pickC_true, pickC_false, pickO_true, pickO_false, gstep_tt, gstep_ff, gstep_tf, gstep_ft, gstep_skip, int_bne, int_beq, decide_not, Nat.reduceAdd, Nat.reduceMul, Nat.reduceSub, Nat.reducePow, Nat.reduceLT, Nat.reduceLeDiff, Nat.reduceEqDiff, Int.reduceToNat, Int.reduceAdd, Int.reduceSub, Int.reduceNeg, Int.reduceMul, Int.reduceLT, Int.reduceLE, Int.reduceEq, le_max, ↓wo_build, ↓wo_buildSlice, evParts, ↓reduceIte, planIds, hasExt, cntFs, idxFs, clnFs, ovlFs, List.contains_cons, List.contains_nil, List.any_cons, List.any_nil, Nat.reduceBEq, setC, List.length_set, decide_eq_true_eq, decide_eq_false_iff_not, true_implies, false_implies, forall_const, reduceCtorEq, eq_self, Int.natCast_nonneg, Int.toNat_natCast, Int.ofNat_lt, D.int.injEq, Option.some.injEq, Nat.zero_add, Nat.add_zero, bne_iff_ne, bne_eq_false_iff_eq, beq_iff_eq, beq_eq_false_iff_ne, gt_iff_lt, ne_eq, not_true_eq_false, not_false_eq_true, planIds, hasExt, cntFs, idxFs, clnFs, ovlFs, List.contains_cons, List.contains_nil, List.any_cons, List.any_nil, Nat.reduceBEq, Nat.reduceMul, Nat.reduceAdd, ↓reduceIte, hal, h0, h1]
      clear hal h0 h1 a
      rintro i a T _ ⟨hal, h0, h5⟩
      simp (maxSteps := 1000000) (disch := omega) only [push_cast, ↓wc_seq, ↓wc_block, ↓wc_scope, ↓wc_condL, ↓wc_region, ↓wr_cons, ↓wr_consgL, ↓wr_nil, ↓wo_pickL, ↓wo_callf, ↓wc_exit, ↓wc_ret, ↓wc_skip, ↓wc_wl, wo_some, wo_none, wo_ite, opQ_eq, seqQ_normal, seqQ_exit, seqQ_ret, blockQ_normal, blockQ_exit, blockQ_ret, iterQ_normal, iterQ_exit, iterQ_ret, retQ_normal, retQ_ret, retQ_exit, pickC_true, pickC_false, pickO_true, pickO_false, gstep_tt, gstep_ff, gstep_tf, gstep_ft, gstep_skip, int_bne, int_beq, decide_not, Nat.reduceAdd, Nat.reduceMul, Nat.reduceSub, Nat.reducePow, Nat.reduceLT, Nat.reduceLeDiff, Nat.reduceEqDiff, Int.reduceToNat, Int.reduceAdd, Int.reduceSub, Int.reduceNeg, Int.reduceMul, Int.reduceLT, Int.reduceLE, Int.reduceEq, le_max, ↓wo_build, ↓wo_buildSlice, evParts, ↓reduceIte, planIds, hasExt, cntFs, idxFs, clnFs, ovlFs, List.contains_cons, List.contains_nil, List.any_cons, List.any_nil, Nat.reduceBEq, setC, List.length_set, decide_eq_true_eq, decide_eq_false_iff_not, true_implies, false_implies, forall_const, reduceCtorEq, eq_self, Int.natCast_nonneg, Int.toNat_natCast, Int.ofNat_lt, D.int.injEq, Option.some.injEq, Nat.zero_add, Nat.add_zero, bne_iff_ne, bne_eq_false_iff_eq, beq_iff_eq, beq_eq_false_iff_ne, gt_iff_lt, ne_eq, not_true_eq_false, not_false_eq_true, planIds, hasExt, cntFs, idxFs, clnFs, ovlFs, List.contains_cons, List.contains_nil, List.any_cons, List.any_nil, Nat.reduceBEq, Nat.reduceMul, Nat.reduceAdd, ↓reduceIte, hal, h0, h5, Int.lt_irrefl, Tryd.f22]
  rcases g with ⟨rfl, hq0⟩ | rfl
  · have hp0 : ps = [] := by
      rw [hq0] at hll
      exact List.length_eq_zero_iff.1 hll
    subst hp0
    simp (maxSteps := 1000000) (disch := omega) only [push_cast, ↓wc_seq, ↓wc_block, ↓wc_scope, ↓wc_condL, ↓wc_region, ↓wr_cons, ↓wr_consgL, ↓wr_nil, ↓wo_pickL, ↓wo_callf, ↓wc_exit, ↓wc_ret, ↓wc_skip, ↓wc_wl, wo_some, wo_none, wo_ite, opQ_eq, seqQ_normal, seqQ_exit, seqQ_ret, blockQ_normal, blockQ_exit, blockQ_ret, iterQ_normal, iterQ_exit, iterQ_ret, retQ_normal, retQ_ret, retQ_exit, pickC_true, pickC_false, pickO_true, pickO_false, gstep_tt, gstep_ff, gstep_tf, gstep_ft, gstep_skip, int_bne, int_beq, decide_not, Nat.reduceAdd, Nat.reduceMul, Nat.reduceSub, Nat.reducePow, Nat.reduceLT, Nat.reduceLeDiff, Nat.reduceEqDiff, Int.reduceToNat, Int.reduceAdd, Int.reduceSub, Int.reduceNeg, Int.reduceMul, Int.reduceLT, Int.reduceLE, Int.reduceEq, le_max, ↓wo_build, ↓wo_buildSlice, evParts, ↓reduceIte, planIds, hasExt, cntFs, idxFs, clnFs, ovlFs, List.contains_cons, List.contains_nil, List.any_cons, List.any_nil, Nat.reduceBEq, setC, List.length_set, decide_eq_true_eq, decide_eq_false_iff_not, true_implies, false_implies, forall_const, reduceCtorEq, eq_self, Int.natCast_nonneg, Int.toNat_natCast, Int.ofNat_lt, D.int.injEq, Option.some.injEq, Nat.zero_add, Nat.add_zero, bne_iff_ne, bne_eq_false_iff_eq, beq_iff_eq, beq_eq_false_iff_ne, gt_iff_lt, ne_eq, not_true_eq_false, not_false_eq_true, planIds, hasExt, cntFs, idxFs, clnFs, ovlFs, List.contains_cons, List.contains_nil, List.any_cons, List.any_nil, Nat.reduceBEq, Nat.reduceMul, Nat.reduceAdd, ↓reduceIte, hal, h0, h1, List.map_nil, List.length_nil, Int.natCast_zero]
    refine wl_loop (fun _ a T => a.length = 53 ∧ a[0]? = some (.sl 1 [] false) ∧ a[5]? = some (.int .i64 0)) 0 ?_ (by omega) ?_
    · simp (maxSteps := 1000000) (disch := omega) only [push_cast, ↓wc_seq, ↓wc_block, ↓wc_scope, ↓wc_condL, ↓wc_region, ↓wr_cons, ↓wr_consgL, ↓wr_nil, ↓wo_pickL, ↓wo_callf, ↓wc_exit, ↓wc_ret, ↓wc_skip, ↓wc_wl, wo_some, wo_none, wo_ite, opQ_eq, seqQ_normal, seqQ_exit, seqQ_ret, blockQ_normal, blockQ_exit, blockQ_ret, iterQ_normal, iterQ_exit, iterQ_ret, retQ_normal, retQ_ret, retQ_exit, pickC_true, pickC_false, pickO_true, pickO_false, gstep_tt, gstep_ff, gstep_tf, gstep_ft, gstep_skip, int_bne, int_beq, decide_not, Nat.reduceAdd, Nat.reduceMul, Nat.reduceSub, Nat.reducePow, Nat.reduceLT, Nat.reduceLeDiff, Nat.reduceEqDiff, Int.reduceToNat, Int.reduceAdd, Int.reduceSub, Int.reduceNeg, Int.reduceMul, Int.reduceLT, Int.reduceLE, Int.reduceEq, le_max, ↓wo_build, ↓wo_buildSlice, evParts, ↓reduceIte, planIds, hasExt, cntFs, idxFs, clnFs, ovlFs, List.contains_cons, List.contains_nil, List.any_cons, List.any_nil, Nat.reduceBEq, setC, List.length_set, decide_eq_true_eq, decide_eq_false_iff_not, true_implies, false_implies, forall_const, reduceCtorEq, eq_self, Int.natCast_nonneg, Int.toNat_natCast, Int.ofNat_lt, D.int.injEq, Option.some.injEq, Nat.zero_add, Nat.add_zero, bne_iff_ne, bne_eq_false_iff_eq, beq_iff_eq, beq_eq_false_iff_ne, gt_iff_lt, ne_eq, not_true_eq_false, not_false_eq_true, planIds, hasExt, cntFs, idxFs, clnFs, ovlFs, List.contains_cons, List.contains_nil, List.any_cons, List.any_nil, Nat.reduceBEq, Nat.reduceMul, Nat.reduceAdd, ↓reduceIte, hal, h0, h1, List.map_nil]
    clear hal h0 h1 a
    rintro i a T _ ⟨hal, h0, h5⟩
    simp (maxSteps := 1000000) (disch := omega) only [push_cast, ↓wc_seq, ↓wc_block, ↓wc_scope, ↓wc_condL, ↓wc_region, ↓wr_cons, ↓wr_consgL, ↓wr_nil, ↓wo_pickL, ↓wo_callf, ↓wc_exit, ↓wc_ret, ↓wc_skip, ↓wc_wl, wo_some, wo_none, wo_ite, opQ_eq, seqQ_normal, seqQ_exit, seqQ_ret, blockQ_normal, blockQ_exit, blockQ_ret, iterQ_normal, iterQ_exit, iterQ_ret, retQ_normal, retQ_ret, retQ_exit, pickC_true, pickC_false, pickO_true, pickO_false, gstep_tt, gstep_ff, gstep_tf, gstep_ft, gstep_skip, int_bne, int_beq, decide_not, Nat.reduceAdd, Nat.reduceMul, Nat.reduceSub, Nat.reducePow, Nat.reduceLT, Nat.reduceLeDiff, Nat.reduceEqDiff, Int.reduceToNat, Int.reduceAdd, Int.reduceSub, Int.reduceNeg, Int.reduceMul, Int.reduceLT, Int.reduceLE, Int.reduceEq, le_max, ↓wo_build, ↓wo_buildSlice, evParts, ↓reduceIte, planIds, hasExt, cntFs, idxFs, clnFs, ovlFs, List.contains_cons, List.contains_nil, List.any_cons, List.any_nil, Nat.reduceBEq, setC, List.length_set, decide_eq_true_eq, decide_eq_false_iff_not, true_implies, false_implies, forall_const, reduceCtorEq, eq_self, Int.natCast_nonneg, Int.toNat_natCast, Int.ofNat_lt, D.int.injEq, Option.some.injEq, Nat.zero_add, Nat.add_zero, bne_iff_ne, bne_eq_false_iff_eq, beq_iff_eq, beq_eq_false_iff_ne, gt_iff_lt, ne_eq, not_true_eq_false, not_false_eq_true, planIds, hasExt, cntFs, idxFs, clnFs, ovlFs, List.contains_cons, List.contains_nil, List.any_cons, List.any_nil, Nat.reduceBEq, Nat.reduceMul, Nat.reduceAdd, ↓reduceIte, hal, h0, h5, List.length_nil, Int.natCast_zero, Int.lt_irrefl, Tryd.f22]
  have e0 : ((ps.length : Int) = (qs.length : Int)) = True := by rw [hll]; simp
  simp (maxSteps := 1000000) (disch := omega) only [push_cast, ↓wc_seq, ↓wc_block, ↓wc_scope, ↓wc_condL, ↓wc_region, ↓wr_cons, ↓wr_consgL, ↓wr_nil, ↓wo_pickL, ↓wo_callf, ↓wc_exit, ↓wc_ret, ↓wc_skip, ↓wc_wl, wo_some, wo_none, wo_ite, opQ_eq, seqQ_normal, seqQ_exit, seqQ_ret, blockQ_normal, blockQ_exit, blockQ_ret, iterQ_normal, iterQ_exit, iterQ_ret, retQ_normal, retQ_ret, retQ_exit, pickC_true, pickC_false, pickO_true, pickO_false, gstep_tt, gstep_ff, gstep_tf, gstep_ft, gstep_skip, int_bne, int_beq, decide_not, Nat.reduceAdd, Nat.reduceMul, Nat.reduceSub, Nat.reducePow, Nat.reduceLT, Nat.reduceLeDiff, Nat.reduceEqDiff, Int.reduceToNat, Int.reduceAdd, Int.reduceSub, Int.reduceNeg, Int.reduceMul, Int.reduceLT, Int.reduceLE, Int.reduceEq, le_max, ↓wo_build, ↓wo_buildSlice, evParts, ↓reduceIte, planIds, hasExt, cntFs, idxFs, clnFs, ovlFs, List.contains_cons, List.contains_nil, List.any_cons, List.any_nil, Nat.reduceBEq, setC, List.length_set, decide_eq_true_eq, decide_eq_false_iff_not, true_implies, false_implies, forall_const, reduceCtorEq, eq_self, Int.natCast_nonneg, Int.toNat_natCast, Int.ofNat_lt, D.int.injEq, Option.some.injEq, Nat.zero_add, Nat.add_zero, bne_iff_ne, bne_eq_false_iff_eq, beq_iff_eq, beq_eq_false_iff_ne, gt_iff_lt, ne_eq, not_true_eq_false, not_false_eq_true, planIds, hasExt, cntFs, idxFs, clnFs, ovlFs, List.contains_cons, List.contains_nil, List.any_cons, List.any_nil, Nat.reduceBEq, Nat.reduceMul, Nat.reduceAdd, ↓reduceIte, hal, h0, h1, List.length_map, e0]
  refine wl_loop (fun i a T => a.length = 53 ∧ a[0]? = some (.sl 1 (ps.map fD) false) ∧ a[1]? = some (.sl 1 (qs.map fD) false) ∧ a[5]? = some (.int .i64 i)) ps.length ?_ (by omega) ?_
  · simp (maxSteps := 1000000) (disch := omega) only [push_cast, ↓wc_seq, ↓wc_block, ↓wc_scope, ↓wc_condL, ↓wc_region, ↓wr_cons, ↓wr_consgL, ↓wr_nil, ↓wo_pickL, ↓wo_callf, ↓wc_exit, ↓wc_ret, ↓wc_skip, ↓wc_wl, wo_some, wo_none, wo_ite, opQ_eq, seqQ_normal, seqQ_exit, seqQ_ret, blockQ_normal, blockQ_exit, blockQ_ret, iterQ_normal, iterQ_exit, iterQ_ret, retQ_normal, retQ_ret, retQ_exit, pickC_true, pickC_false, pickO_true, pickO_false, gstep_tt, gstep_ff, gstep_tf, gstep_ft, gstep_skip, int_bne, int_beq, decide_not, Nat.reduceAdd, Nat.reduceMul, Nat.reduceSub, Nat.reducePow, Nat.reduceLT, Nat.reduceLeDiff, Nat.reduceEqDiff, Int.reduceToNat, Int.reduceAdd, Int.reduceSub, Int.reduceNeg, Int.reduceMul, Int.reduceLT, Int.reduceLE, Int.reduceEq, le_max, ↓wo_build, ↓wo_buildSlice, evParts, ↓reduceIte, planIds, hasExt, cntFs, idxFs, clnFs, ovlFs, List.contains_cons, List.contains_nil, List.any_cons, List.any_nil, Nat.reduceBEq, setC, List.length_set, decide_eq_true_eq, decide_eq_false_iff_not, true_implies, false_implies, forall_const, reduceCtorEq, eq_self, Int.natCast_nonneg, Int.toNat_natCast, Int.ofNat_lt, D.int.injEq, Option.some.injEq, Nat.zero_add, Nat.add_zero, bne_iff_ne, bne_eq_false_iff_eq, beq_iff_eq, beq_eq_false_iff_ne, gt_iff_lt, ne_eq, not_true_eq_false, not_false_eq_true, planIds, hasExt, cntFs, idxFs, clnFs, ovlFs, List.contains_cons, List.contains_nil, List.any_cons, List.any_nil, Nat.reduceBEq, Nat.reduceMul, Nat.reduceAdd, ↓reduceIte, hal, h0, h1, Int.natCast_zero]
  clear hal h0 h1 a
  rintro i a T hi ⟨hal, h0, h1, h5⟩
  rcases Nat.lt_or_eq_of_le hi with hlt | rfl
  case inr =>
    simp (maxSteps := 1000000) (disch := omega) only [push_cast, ↓wc_seq, ↓wc_block, ↓wc_scope, ↓wc_condL, ↓wc_region, ↓wr_cons, ↓wr_consgL, ↓wr_nil, ↓wo_pickL, ↓wo_callf, ↓wc_exit, ↓wc_ret, ↓wc_skip, ↓wc_wl, wo_some, wo_none, wo_ite, opQ_eq, seqQ_normal, seqQ_exit, seqQ_ret, blockQ_normal, blockQ_exit, blockQ_ret, iterQ_normal, iterQ_exit, iterQ_ret, retQ_normal, retQ_ret, retQ_exit, pickC_true, pickC_false, pickO_true, pickO_false, gstep_tt, gstep_ff, gstep_tf, gstep_ft, gstep_skip, int_bne, int_beq, decide_not, Nat.reduceAdd, Nat.reduceMul, Nat.reduceSub, Nat.reducePow, Nat.reduceLT, Nat.reduceLeDiff, Nat.reduceEqDiff, Int.reduceToNat, Int.reduceAdd, Int.reduceSub, Int.reduceNeg, Int.reduceMul, Int.reduceLT, Int.reduceLE, Int.reduceEq, le_max, ↓wo_build, ↓wo_buildSlice, evParts, ↓reduceIte, planIds, hasExt, cntFs, idxFs, clnFs, ovlFs, List.contains_cons, List.contains_nil, List.any_cons, List.any_nil, Nat.reduceBEq, setC, List.length_set, decide_eq_true_eq, decide_eq_false_iff_not, true_implies, false_implies, forall_const, reduceCtorEq, eq_self, Int.natCast_nonneg, Int.toNat_natCast, Int.ofNat_lt, D.int.injEq, Option.some.injEq, Nat.zero_add, Nat.add_zero, bne_iff_ne, bne_eq_false_iff_eq, beq_iff_eq, beq_eq_false_iff_ne, gt_iff_lt, ne_eq, not_true_eq_false, not_false_eq_true, planIds, hasExt, cntFs, idxFs, clnFs, ovlFs, List.contains_cons, List.contains_nil, List.any_cons, List.any_nil, Nat.reduceBEq, Nat.reduceMul, Nat.reduceAdd, ↓reduceIte, hal, h0, h1, h5, List.length_map, Nat.lt_irrefl, Tryd.f22]
  obtain ⟨⟨p, bp⟩, hp⟩ : ∃ z, ps[i]? = some z := ⟨ps[i], by simp⟩
  obtain ⟨⟨q, bq⟩, hq⟩ : ∃ z, qs[i]? = some z := ⟨qs[i]'(by omega), by simp⟩
  have hlq : i < qs.length := by omega
  obtain rfl : p = q := by
    have := congrArg (fun l => l[i]?) he
    simp only [List.getElem?_map, hp, hq, Option.map_some, Option.some.injEq] at this
    exact this
  have hpl : p.length ≤ 100 := hlen _ (List.mem_of_getElem? hp)
  have w1 : IntKind.i64.wrap ((i : Int) + 1) = (i : Int) + 1 := wrap_ok (by omega) (by omega)
  simp (maxSteps := 1000000) (disch := omega) only [push_cast, ↓wc_seq, ↓wc_block, ↓wc_scope, ↓wc_condL, ↓wc_region, ↓wr_cons, ↓wr_consgL, ↓wr_nil, ↓wo_pickL, ↓wo_callf, ↓wc_exit, ↓wc_ret, ↓wc_skip, ↓wc_wl, wo_some, wo_none, wo_ite, opQ_eq, seqQ_normal, seqQ_exit, seqQ_ret, blockQ_normal, blockQ_exit, blockQ_ret, iterQ_normal, iterQ_exit, iterQ_ret, retQ_normal, retQ_ret, retQ_exit, pickC_true, pickC_false, pickO_true, pickO_false, gstep_tt, gstep_ff, gstep_tf, gstep_ft, gstep_skip, int_bne, int_beq, decide_not, Nat.reduceAdd, Nat.reduceMul, Nat.reduceSub, Nat.reducePow, Nat.reduceLT, Nat.reduceLeDiff, Nat.reduceEqDiff, Int.reduceToNat, Int.reduceAdd, Int.reduceSub, Int.reduceNeg, Int.reduceMul, Int.reduceLT, Int.reduceLE, Int.reduceEq, le_max, ↓wo_build, ↓wo_buildSlice, evParts, ↓reduceIte, planIds, hasExt, cntFs, idxFs, clnFs, ovlFs, List.contains_cons, List.contains_nil, List.any_cons, List.any_nil, Nat.reduceBEq, setC, List.length_set, decide_eq_true_eq, decide_eq_false_iff_not, true_implies, false_implies, forall_const, reduceCtorEq, eq_self, Int.natCast_nonneg, Int.toNat_natCast, Int.ofNat_lt, D.int.injEq, Option.some.injEq, Nat.zero_add, Nat.add_zero, bne_iff_ne, bne_eq_false_iff_eq, beq_iff_eq, beq_eq_false_iff_ne, gt_iff_lt, ne_eq, not_true_eq_false, not_false_eq_true, planIds, hasExt, cntFs, idxFs, clnFs, ovlFs, List.contains_cons, List.contains_nil, List.any_cons, List.any_nil, Nat.reduceBEq, Nat.reduceMul, Nat.reduceAdd, ↓reduceIte, hal, h0, h1, h5, hlt, hlq, List.length_map, List.getElem?_map, hp, hq]
  refine wl_loop (fun k a T => a.length = 53 ∧ a[0]? = some (.sl 1 (ps.map fD) false) ∧ a[1]? = some (.sl 1 (qs.map fD) false) ∧ a[5]? = some (.int .i64 i) ∧ a[6]? = some (.int .i64 k)) p.length ?_ (by omega) ?_
  · simp (maxSteps := 1000000) (disch := omega) only [push_cast, ↓wc_seq, ↓wc_block, ↓wc_scope, ↓wc_condL, ↓wc_region, ↓wr_cons, ↓wr_consgL, ↓wr_nil, ↓wo_pickL, ↓wo_callf, ↓wc_exit, ↓wc_ret, ↓wc_skip, ↓wc_wl, wo_some, wo_none, wo_ite, opQ_eq, seqQ_normal, seqQ_exit, seqQ_ret, blockQ_normal, blockQ_exit, blockQ_ret, iterQ_normal, iterQ_exit, iterQ_ret, retQ_normal, retQ_ret, retQ_exit, pickC_true, pickC_false, pickO_true, pickO_false, gstep_tt, gstep_ff, gstep_tf, gstep_ft, gstep_skip, int_bne, int_beq, decide_not, Nat.reduceAdd, Nat.reduceMul, Nat.reduceSub, Nat.reducePow, Nat.reduceLT, Nat.reduceLeDiff, Nat.reduceEqDiff, Int.reduceToNat, Int.reduceAdd, Int.reduceSub, Int.reduceNeg, Int.reduceMul, Int.reduceLT, Int.reduceLE, Int.reduceEq, le_max, ↓wo_build, ↓wo_buildSlice, evParts, ↓reduceIte, planIds, hasExt, cntFs, idxFs, clnFs, ovlFs, List.contains_cons, List.contains_nil, List.any_cons, List.any_nil, Nat.reduceBEq, setC, List.length_set, decide_eq_true_eq, decide_eq_false_iff_not, true_implies, false_implies, forall_const, reduceCtorEq, eq_self, Int.natCast_nonneg, Int.toNat_natCast, Int.ofNat_lt, D.int.injEq, Option.some.injEq, Nat.zero_add, Nat.add_zero, bne_iff_ne, bne_eq_false_iff_eq, beq_iff_eq, beq_eq_false_iff_ne, gt_iff_lt, ne_eq, not_true_eq_false, not_false_eq_true, planIds, hasExt, cntFs, idxFs, clnFs, ovlFs, List.contains_cons, List.contains_nil, List.any_cons, List.any_nil, Nat.reduceBEq, Nat.reduceMul, Nat.reduceAdd, ↓reduceIte, hal, h0, h1, h5, Int.natCast_zero]
  clear hal h0 h1 h5 a
  rintro k a T hk ⟨hal, h0, h1, h5, h6⟩
  have w2 : IntKind.i64.wrap ((k : Int) + 1) = (k : Int) + 1 := wrap_ok (by omega) (by omega)
  rcases Nat.lt_or_eq_of_le hk with hkl | rfl
  case inr =>
    simp (maxSteps := 1000000) (disch := omega) only [push_cast, ↓wc_seq, ↓wc_block, ↓wc_scope, ↓wc_condL, ↓wc_region, ↓wr_cons, ↓wr_consgL, ↓wr_nil, ↓wo_pickL, ↓wo_callf, ↓wc_exit, ↓wc_ret, ↓wc_skip, ↓wc_wl, wo_some, wo_none, wo_ite, opQ_eq, seqQ_normal, seqQ_exit, seqQ_ret, blockQ_normal, blockQ_exit, blockQ_ret, iterQ_normal, iterQ_exit, iterQ_ret, retQ_normal, retQ_ret, retQ_exit, pickC_true, pickC_false, pickO_true, pickO_false, gstep_tt, gstep_ff, gstep_tf, gstep_ft, gstep_skip, int_bne, int_beq, decide_not, Nat.reduceAdd, Nat.reduceMul, Nat.reduceSub, Nat.reducePow, Nat.reduceLT, Nat.reduceLeDiff, Nat.reduceEqDiff, Int.reduceToNat, Int.reduceAdd, Int.reduceSub, Int.reduceNeg, Int.reduceMul, Int.reduceLT, Int.reduceLE, Int.reduceEq, le_max, ↓wo_build, ↓wo_buildSlice, evParts, ↓reduceIte, planIds, hasExt, cntFs, idxFs, clnFs, ovlFs, List.contains_cons, List.contains_nil, List.any_cons, List.any_nil, Nat.reduceBEq, setC, List.length_set, decide_eq_true_eq, decide_eq_false_iff_not, true_implies, false_implies, forall_const, reduceCtorEq, eq_self, Int.natCast_nonneg, Int.toNat_natCast, Int.ofNat_lt, D.int.injEq, Option.some.injEq, Nat.zero_add, Nat.add_zero, bne_iff_ne, bne_eq_false_iff_eq, beq_iff_eq, beq_eq_false_iff_ne, gt_iff_lt, ne_eq, not_true_eq_false, not_false_eq_true, planIds, hasExt, cntFs, idxFs, clnFs, ovlFs, List.contains_cons, List.contains_nil, List.any_cons, List.any_nil, Nat.reduceBEq, Nat.reduceMul, Nat.reduceAdd, ↓reduceIte, hal, h0, h1, h5, h6, hlt, hlq, List.length_map, List.getElem?_map, hp, hq, Nat.lt_irrefl, w1, Int.natCast_add, Int.natCast_one]
  obtain ⟨u, hu⟩ : ∃ z, p[k]? = some z := ⟨p[k], by simp⟩
  simp (maxSteps := 1000000) (disch := omega) only [push_cast, ↓wc_seq, ↓wc_block, ↓wc_scope, ↓wc_condL, ↓wc_region, ↓wr_cons, ↓wr_consgL, ↓wr_nil, ↓wo_pickL, ↓wo_callf, ↓wc_exit, ↓wc_ret, ↓wc_skip, ↓wc_wl, wo_some, wo_none, wo_ite, opQ_eq, seqQ_normal, seqQ_exit, seqQ_ret, blockQ_normal, blockQ_exit, blockQ_ret, iterQ_normal, iterQ_exit, iterQ_ret, retQ_normal, retQ_ret, retQ_exit, pickC_true, pickC_false, pickO_true, pickO_false, gstep_tt, gstep_ff, gstep_tf, gstep_ft, gstep_skip, int_bne, int_beq, decide_not, Nat.reduceAdd, Nat.reduceMul, Nat.reduceSub, Nat.reducePow, Nat.reduceLT, Nat.reduceLeDiff, Nat.reduceEqDiff, Int.reduceToNat, Int.reduceAdd, Int.reduceSub, Int.reduceNeg, Int.reduceMul, Int.reduceLT, Int.reduceLE, Int.reduceEq, le_max, ↓wo_build, ↓wo_buildSlice, evParts, ↓reduceIte, planIds, hasExt, cntFs, idxFs, clnFs, ovlFs, List.contains_cons, List.contains_nil, List.any_cons, List.any_nil, Nat.reduceBEq, setC, List.length_set, decide_eq_true_eq, decide_eq_false_iff_not, true_implies, false_implies, forall_const, reduceCtorEq, eq_self, Int.natCast_nonneg, Int.toNat_natCast, Int.ofNat_lt, D.int.injEq, Option.some.injEq, Nat.zero_add, Nat.add_zero, bne_iff_ne, bne_eq_false_iff_eq, beq_iff_eq, beq_eq_false_iff_ne, gt_iff_lt, ne_eq, not_true_eq_false, not_false_eq_true, planIds, hasExt, cntFs, idxFs, clnFs, ovlFs, List.contains_cons, List.contains_nil, List.any_cons, List.any_nil, Nat.reduceBEq, Nat.reduceMul, Nat.reduceAdd, ↓reduceIte, hal, h0, h1, h5, h6, hlt, hlq, hkl, List.length_map, List.getElem?_map, hp, hq, hu, w2, Int.natCast_add, Int.natCast_one]
theorem Same_c {n : Nat} {d e : D} {ps qs : List (List Nat × Bool)} (h : FR d ps) (g : FR e qs) (he : ps.map (·.1) = qs.map (·.1)) (hl : ps.length ≤ 2000) (hlen : ∀ q ∈ ps, q.1.length ≤ 100) (hn : ps.length + 201 < n) (st : Bool) (S : List Ob) :
    callD E (dcall E n) st S 22 [d, e] = some (.bool true, S) := by
  obtain ⟨m, rfl⟩ : ∃ m, n = m + 1 := ⟨n - 1, by omega⟩
  obtain ⟨_, T, ho, rfl⟩ := Same_d (n := m) h g he hl hlen (by omega)
  exact callD_pure rfl (by simp [pureL_cons, pureL_nil, h.pure, g.pure]) ho rfl

theorem FP.fr {d : D} {ps : List (List Nat)} (h : FP d ps) : FR d (ps.map fun p => (p, false)) := by
  rcases h with ⟨h1, rfl⟩ | h
  · exact .inl ⟨h1, rfl⟩
  · exact .inr (by rw [h, List.map_map]; rfl)
/-- What a call of the reference's search hands back. -/
theorem RPaths_c {n : Nat} {l : List Cnn} {x : Bool} {segs : List Sgm} {y : Bool} {fr to : ByteArray} {mo : Int} (hn : 40001 + l.length ≤ n) (hll : l.length ≤ 1000) (hsl : segs.length ≤ 30) (near : ∀ s ∈ segs, Near s) :
    ∃ d e qs, (∀ st S, callD E (dcall E n) st S 21 [.sl 4 (l.map Cnn.enc) x, .sl 7 (segs.map Sgm.enc) y, .str fr, .str to, .int .i64 mo] = some (.tup [d, .int .i64 e], S)) ∧ FR d qs ∧
      (((mo < 1 ∨ 3 < mo) ∧ qs.map (·.1) = [] ∧ e = 2) ∨ ∃ m : Nat, mo = ((m + 1 : Nat) : Int) ∧ m ≤ 2 ∧ ((1024 < (dfs l segs fr to (m + 1) []).length ∧ qs.map (·.1) = [] ∧ e = 4) ∨ ((dfs l segs fr to (m + 1) []).length ≤ 1024 ∧ e = 0 ∧ (qs.map (·.1)).Perm (dfs l segs fr to (m + 1) []) ∧ (qs.map (·.1)).Pairwise fun x y => ¬ ahd segs y x))) := by
  obtain ⟨n, rfl⟩ : ∃ m, n = m + 1 := ⟨n - 1, by omega⟩
  obtain ⟨r, T, ho, h⟩ := RPaths_d (n := n) (l := l) (x := x) (segs := segs) (y := y) (fr := fr) (to := to) (mo := mo) (S := []) (by omega) hll hsl near
  have hp : pureL [.sl 4 (l.map Cnn.enc) x, .sl 7 (segs.map Sgm.enc) y, .str fr, .str to, .int .i64 mo] = true := by
    have h1 : (D.sl 4 (l.map Cnn.enc) x).pure = true := cnn_pure l
    have h2 : (D.sl 7 (segs.map Sgm.enc) y).pure = true := sgm_pure segs
    simp [pureL_cons, pureL_nil, h1, h2]
    exact ⟨rfl, rfl, rfl⟩
  rcases h with ⟨h1, rfl⟩ | ⟨m, h1, h2, ⟨h3, rfl⟩ | ⟨h3, d, o, rfl, h5, h6, h7, h8⟩⟩
  · exact ⟨_, _, [], fun st S => callD_pure rfl hp ho rfl, .inl ⟨rfl, rfl⟩, .inl ⟨h1, rfl, rfl⟩⟩
  · exact ⟨_, _, [], fun st S => callD_pure rfl hp ho rfl, .inl ⟨rfl, rfl⟩, .inr ⟨m, h1, h2, .inl ⟨h3, rfl, rfl⟩⟩⟩
  · obtain ⟨d', qs, hf, hfp, hqs⟩ := freeze_pj h5 h6
    have hfz : freeze T 40 (.tup [d, .int .i64 0]) = some (.tup [d', .int .i64 0]) := by
      unfold freeze
      by_cases hd : (D.tup [d, .int .i64 0]).pure = true
      · rw [if_pos hd]
        have hdp : d.pure = true := by simpa [D.pure, pureL_cons, pureL_nil] using hd
        rw [freeze_pure hdp] at hf
        cases hf; rfl
      · rw [if_neg hd]
        simp only [mapO, hf, freeze_pure (show (D.int .i64 0).pure = true from rfl), Option.map_some]
    exact ⟨_, _, qs, fun st S => callD_pure rfl hp ho hfz, hfp, .inr ⟨m, h1, h2, .inr ⟨h3, rfl, by rw [hqs]; exact h7, by rw [hqs]; exact h8⟩⟩⟩
theorem sorted_eq {segs : List Sgm} {a b : List (List Nat)} (h : a.Perm b) (ha : a.Pairwise fun x y => ¬ ahd segs y x) (hb : b.Pairwise fun x y => ¬ ahd segs y x) : a = b :=
  List.Perm.eq_of_pairwise (le := fun x y => ¬ ahd segs y x) (fun x y _ _ h1 h2 => by
    rcases ahd_tri (segs := segs) x y with h | h | h
    · exact absurd h h2
    · exact h
    · exact absurd h h1) ha hb h
set_option maxHeartbeats 16000000 in
set_option maxRecDepth 100000 in
theorem ConnectPaths_d {n : Nat} (hn : 41000 ≤ n) {l : List Cnn} {x y : Bool} {segs : List Sgm} {fr to : ByteArray} {mo : Int} (hll : l.length ≤ 9223372036854775807) (hls : segs.length ≤ 9223372036854775807) (hN : segs.length + 2 < n) :
    WO (dcall E (n + 1) 5 [.agg [.sl 4 (l.map Cnn.enc) x, .sl 7 (segs.map Sgm.enc) y], .str fr, .str to, .int .i64 mo] []) fun d _ => d = .bool true := by
  have ck := knows_c (n := n) (by omega)
  have cf := far_c (n := n) (l := segs) (x := y) (by omega) (by omega)
  refine wo_dcall Tryd.func5 rfl (by decide) rfl 62 rfl (fun a hal ha => ?_)
  have h0 : a[0]? = some (.agg [.sl 4 (l.map Cnn.enc) x, .sl 7 (segs.map Sgm.enc) y]) := ha 0 (by simp)
  have h1 : a[1]? = some (.str fr) := ha 1 (by simp)
  have h2 : a[2]? = some (.str to) := ha 2 (by simp)
  have h3 : a[3]? = some (.int .i64 mo) := ha 3 (by simp)
  clear ha
  by_cases g1 : (30 : Int) < l.length
  · simp (maxSteps := 1000000) (disch := omega) only [push_cast, ↓wc_seq, ↓wc_block, ↓wc_scope, ↓wc_condL, ↓wc_region, ↓wr_cons, ↓wr_consgL, ↓wr_nil, ↓wo_pickL, ↓wo_callf, ↓wc_exit, ↓wc_ret, ↓wc_skip, ↓wc_wl, wo_some, wo_none, wo_ite, opQ_eq, seqQ_normal, seqQ_exit, seqQ_ret, blockQ_normal, blockQ_exit, blockQ_ret, iterQ_normal, iterQ_exit, iterQ_ret, retQ_normal, retQ_ret, retQ_exit, pickC_true, pickC_false, pickO_true, pickO_false, gstep_tt, gstep_ff, gstep_tf, gstep_ft, gstep_skip, int_bne, int_beq, decide_not, Nat.reduceAdd, Nat.reduceMul, Nat.reduceSub, Nat.reducePow, Nat.reduceLT, Nat.reduceLeDiff, Nat.reduceEqDiff, Int.reduceToNat, Int.reduceAdd, Int.reduceSub, Int.reduceNeg, Int.reduceMul, Int.reduceLT, Int.reduceLE, Int.reduceEq, le_max, ↓wo_build, ↓wo_buildSlice, evParts, ↓reduceIte, planIds, hasExt, cntFs, idxFs, clnFs, ovlFs, List.contains_cons, List.contains_nil, List.any_cons, List.any_nil, Nat.reduceBEq, setC, List.length_set, decide_eq_true_eq, decide_eq_false_iff_not, true_implies, false_implies, forall_const, reduceCtorEq, eq_self, Int.natCast_nonneg, Int.toNat_natCast, Int.ofNat_lt, D.int.injEq, Option.some.injEq, Nat.zero_add, Nat.add_zero, bne_iff_ne, bne_eq_false_iff_eq, beq_iff_eq, beq_eq_false_iff_ne, gt_iff_lt, ne_eq, not_true_eq_false, not_false_eq_true, planIds, hasExt, cntFs, idxFs, clnFs, ovlFs, List.contains_cons, List.contains_nil, List.any_cons, List.any_nil, Nat.reduceBEq, Nat.reduceMul, Nat.reduceAdd, ↓reduceIte, hal, h0, h1, h2, h3, List.length_map, g1, ck, set_end, get_end, Tryd.f5]
  by_cases g2 : (30 : Int) < segs.length
  · simp (maxSteps := 1000000) (disch := omega) only [push_cast, ↓wc_seq, ↓wc_block, ↓wc_scope, ↓wc_condL, ↓wc_region, ↓wr_cons, ↓wr_consgL, ↓wr_nil, ↓wo_pickL, ↓wo_callf, ↓wc_exit, ↓wc_ret, ↓wc_skip, ↓wc_wl, wo_some, wo_none, wo_ite, opQ_eq, seqQ_normal, seqQ_exit, seqQ_ret, blockQ_normal, blockQ_exit, blockQ_ret, iterQ_normal, iterQ_exit, iterQ_ret, retQ_normal, retQ_ret, retQ_exit, pickC_true, pickC_false, pickO_true, pickO_false, gstep_tt, gstep_ff, gstep_tf, gstep_ft, gstep_skip, int_bne, int_beq, decide_not, Nat.reduceAdd, Nat.reduceMul, Nat.reduceSub, Nat.reducePow, Nat.reduceLT, Nat.reduceLeDiff, Nat.reduceEqDiff, Int.reduceToNat, Int.reduceAdd, Int.reduceSub, Int.reduceNeg, Int.reduceMul, Int.reduceLT, Int.reduceLE, Int.reduceEq, le_max, ↓wo_build, ↓wo_buildSlice, evParts, ↓reduceIte, planIds, hasExt, cntFs, idxFs, clnFs, ovlFs, List.contains_cons, List.contains_nil, List.any_cons, List.any_nil, Nat.reduceBEq, setC, List.length_set, decide_eq_true_eq, decide_eq_false_iff_not, true_implies, false_implies, forall_const, reduceCtorEq, eq_self, Int.natCast_nonneg, Int.toNat_natCast, Int.ofNat_lt, D.int.injEq, Option.some.injEq, Nat.zero_add, Nat.add_zero, bne_iff_ne, bne_eq_false_iff_eq, beq_iff_eq, beq_eq_false_iff_ne, gt_iff_lt, ne_eq, not_true_eq_false, not_false_eq_true, planIds, hasExt, cntFs, idxFs, clnFs, ovlFs, List.contains_cons, List.contains_nil, List.any_cons, List.any_nil, Nat.reduceBEq, Nat.reduceMul, Nat.reduceAdd, ↓reduceIte, hal, h0, h1, h2, h3, List.length_map, g1, g2, ck, set_end, get_end, Tryd.f5]
  cases e1 : segs.any farB
  case true =>
    rw [e1] at cf
    simp (maxSteps := 1000000) (disch := omega) only [push_cast, ↓wc_seq, ↓wc_block, ↓wc_scope, ↓wc_condL, ↓wc_region, ↓wr_cons, ↓wr_consgL, ↓wr_nil, ↓wo_pickL, ↓wo_callf, ↓wc_exit, ↓wc_ret, ↓wc_skip, ↓wc_wl, wo_some, wo_none, wo_ite, opQ_eq, seqQ_normal, seqQ_exit, seqQ_ret, blockQ_normal, blockQ_exit, blockQ_ret, iterQ_normal, iterQ_exit, iterQ_ret, retQ_normal, retQ_ret, retQ_exit, pickC_true, pickC_false, pickO_true, pickO_false, gstep_tt, gstep_ff, gstep_tf, gstep_ft, gstep_skip, int_bne, int_beq, decide_not, Nat.reduceAdd, Nat.reduceMul, Nat.reduceSub, Nat.reducePow, Nat.reduceLT, Nat.reduceLeDiff, Nat.reduceEqDiff, Int.reduceToNat, Int.reduceAdd, Int.reduceSub, Int.reduceNeg, Int.reduceMul, Int.reduceLT, Int.reduceLE, Int.reduceEq, le_max, ↓wo_build, ↓wo_buildSlice, evParts, ↓reduceIte, planIds, hasExt, cntFs, idxFs, clnFs, ovlFs, List.contains_cons, List.contains_nil, List.any_cons, List.any_nil, Nat.reduceBEq, setC, List.length_set, decide_eq_true_eq, decide_eq_false_iff_not, true_implies, false_implies, forall_const, reduceCtorEq, eq_self, Int.natCast_nonneg, Int.toNat_natCast, Int.ofNat_lt, D.int.injEq, Option.some.injEq, Nat.zero_add, Nat.add_zero, bne_iff_ne, bne_eq_false_iff_eq, beq_iff_eq, beq_eq_false_iff_ne, gt_iff_lt, ne_eq, not_true_eq_false, not_false_eq_true, planIds, hasExt, cntFs, idxFs, clnFs, ovlFs, List.contains_cons, List.contains_nil, List.any_cons, List.any_nil, Nat.reduceBEq, Nat.reduceMul, Nat.reduceAdd, ↓reduceIte, hal, h0, h1, h2, h3, List.length_map, g1, g2, cf, ck, set_end, get_end, Tryd.f5]
  rw [e1] at cf
  have near : ∀ s ∈ segs, Near s := fun s hs => far_near (by
    rw [List.any_eq_false] at e1
    simpa using e1 s hs)
  have hFit : ∀ n, l.length + 40 ≤ n → ∀ st S a b, Near a → Near b → callD E (dcall E n) st S 15 [.sl 4 (l.map Cnn.enc) x, .agg a.enc, .agg b.enc] = some (.bool (fitB l a b), S) := fun n hn st S a b ha hb => Fits_c (by omega) (by omega) ha hb st S
  obtain ⟨d, e, ps, cp, hfp, hps⟩ := Paths_c (n := n) (l := l) (segs := segs) (lD := .sl 4 (l.map Cnn.enc) x) (sgD := .sl 7 (segs.map Sgm.enc) y) (fr := fr) (to := to) (mo := mo) (by omega) hFit rfl rfl (cnn_pure l) (sgm_pure segs) near (by omega) (.inr (.inl ⟨y, rfl⟩))
  obtain ⟨d', e', qs, cq, hfq, hqs⟩ := RPaths_c (n := n) (l := l) (x := x) (segs := segs) (y := y) (fr := fr) (to := to) (mo := mo) (by omega) (by omega) (by omega) near
  have key : ps = qs.map (·.1) ∧ e = e' ∧ ps.length ≤ 1024 ∧ ∀ q ∈ ps, q.length ≤ 100 := by
    rcases hps with ⟨h1, rfl, rfl⟩ | ⟨m, hm, hm2, hps⟩
    · rcases hqs with ⟨-, h2, rfl⟩ | ⟨m', hm', hm2', -⟩
      · exact ⟨h2.symm, rfl, by simp, by simp⟩
      · omega
    · rcases hqs with ⟨h1, -, -⟩ | ⟨m', hm', hm2', hqs⟩
      · omega
      · obtain rfl : m = m' := by omega
        rcases hps with ⟨h1, rfl, rfl⟩ | ⟨h1, rfl, p1, p2⟩
        · rcases hqs with ⟨-, h2, rfl⟩ | ⟨h2, -⟩
          · exact ⟨h2.symm, rfl, by simp, by simp⟩
          · omega
        · rcases hqs with ⟨h2, -⟩ | ⟨h2, rfl, q1, q2⟩
          · omega
          · exact ⟨sorted_eq (p1.trans q1.symm) p2 q2, rfl, by rw [p1.length_eq]; exact h1, fun q hq => by
              have := (dfs_len3 (p1.subset hq)).2.2
              omega⟩
  obtain ⟨k1, rfl, k3, k4⟩ := key
  have cs := Same_c (n := n) hfp.fr hfq (by rw [List.map_map, ← k1]; exact List.map_id' _) (by simp; omega) (fun q hq => by
    obtain ⟨p, hp, rfl⟩ := List.mem_map.1 hq
    exact k4 p hp) (by simp; omega)
  simp (maxSteps := 1000000) (disch := omega) only [push_cast, ↓wc_seq, ↓wc_block, ↓wc_scope, ↓wc_condL, ↓wc_region, ↓wr_cons, ↓wr_consgL, ↓wr_nil, ↓wo_pickL, ↓wo_callf, ↓wc_exit, ↓wc_ret, ↓wc_skip, ↓wc_wl, wo_some, wo_none, wo_ite, opQ_eq, seqQ_normal, seqQ_exit, seqQ_ret, blockQ_normal, blockQ_exit, blockQ_ret, iterQ_normal, iterQ_exit, iterQ_ret, retQ_normal, retQ_ret, retQ_exit, pickC_true, pickC_false, pickO_true, pickO_false, gstep_tt, gstep_ff, gstep_tf, gstep_ft, gstep_skip, int_bne, int_beq, decide_not, Nat.reduceAdd, Nat.reduceMul, Nat.reduceSub, Nat.reducePow, Nat.reduceLT, Nat.reduceLeDiff, Nat.reduceEqDiff, Int.reduceToNat, Int.reduceAdd, Int.reduceSub, Int.reduceNeg, Int.reduceMul, Int.reduceLT, Int.reduceLE, Int.reduceEq, le_max, ↓wo_build, ↓wo_buildSlice, evParts, ↓reduceIte, planIds, hasExt, cntFs, idxFs, clnFs, ovlFs, List.contains_cons, List.contains_nil, List.any_cons, List.any_nil, Nat.reduceBEq, setC, List.length_set, decide_eq_true_eq, decide_eq_false_iff_not, true_implies, false_implies, forall_const, reduceCtorEq, eq_self, Int.natCast_nonneg, Int.toNat_natCast, Int.ofNat_lt, D.int.injEq, Option.some.injEq, Nat.zero_add, Nat.add_zero, bne_iff_ne, bne_eq_false_iff_eq, beq_iff_eq, beq_eq_false_iff_ne, gt_iff_lt, ne_eq, not_true_eq_false, not_false_eq_true, planIds, hasExt, cntFs, idxFs, clnFs, ovlFs, List.contains_cons, List.contains_nil, List.any_cons, List.any_nil, Nat.reduceBEq, Nat.reduceMul, Nat.reduceAdd, ↓reduceIte, hal, h0, h1, h2, h3, List.length_map, g1, g2, cf, cp, cq, cs, ck, set_end, get_end, Tryd.f5]
end Go.Proofs.YtgomkmamgflbeaaDoor.Dm
