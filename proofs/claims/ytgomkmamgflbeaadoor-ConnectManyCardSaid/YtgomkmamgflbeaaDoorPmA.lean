/-
  The machine at ConnectMany: many parallel segments.
-/
import Derived.Test.YtgomkmamgflbeaaDoorPaE
import Derived.Test.YtgomkmamgflbeaaDoorCoK
namespace Go.Proofs.YtgomkmamgflbeaaDoor.Dm
open Go Gw
set_option linter.unusedSimpArgs false

/-! Without connecting times. -/
set_option maxHeartbeats 4000000 in
set_option maxRecDepth 100000 in
theorem Minutes0_c {n : Nat} {p q r : ByteArray} (hn : 10 ≤ n) (st : Bool) (S : List Ob) : callD E (dcall E n) st S 13 [.nils, .str p, .str q, .str r] = some (.int .i64 60, S) := by
  obtain ⟨m, rfl⟩ : ∃ m, n = m + 1 := ⟨n - 1, by omega⟩
  have : WO (dcall E (m + 1) 13 [.nils, .str p, .str q, .str r] []) fun d T => d = .int .i64 60 := by
    refine wo_dcall Tryd.func13 rfl (by decide) rfl 33 rfl (fun a hal ha => ?_)
    have h0 : a[0]? = some (.nils) := ha 0 (by simp)
    have h1 : a[1]? = some (.str p) := ha 1 (by simp)
    have h2 : a[2]? = some (.str q) := ha 2 (by simp)
    have h3 : a[3]? = some (.str r) := ha 3 (by simp)
    clear ha
    simp (maxSteps := 1000000) (disch := omega) only [push_cast, ↓wc_seq, ↓wc_block, ↓wc_scope, ↓wc_condL, ↓wc_region, ↓wr_cons, ↓wr_consgL, ↓wr_nil, ↓wo_pickL, ↓wo_callf, ↓wc_exit, ↓wc_ret, ↓wc_skip, ↓wc_wl, wo_some, wo_none, wo_ite, opQ_eq, seqQ_normal, seqQ_exit, seqQ_ret, blockQ_normal, blockQ_exit, blockQ_ret, iterQ_normal, iterQ_exit, iterQ_ret, retQ_normal, retQ_ret, retQ_exit, pickC_true, pickC_false, pickO_true, pickO_false, gstep_tt, gstep_ff, gstep_tf, gstep_ft, gstep_skip, int_bne, int_beq, decide_not, Nat.reduceAdd, Nat.reduceMul, Nat.reduceSub, Nat.reducePow, Nat.reduceLT, Nat.reduceLeDiff, Nat.reduceEqDiff, Int.reduceToNat, Int.reduceAdd, Int.reduceSub, Int.reduceNeg, Int.reduceMul, Int.reduceLT, Int.reduceLE, Int.reduceEq, le_max, ↓wo_build, ↓wo_buildSlice, evParts, ↓reduceIte, planIds, hasExt, cntFs, idxFs, clnFs, ovlFs, List.contains_cons, List.contains_nil, List.any_cons, List.any_nil, Nat.reduceBEq, setC, List.length_set, decide_eq_true_eq, decide_eq_false_iff_not, true_implies, false_implies, forall_const, reduceCtorEq, eq_self, Int.natCast_nonneg, Int.toNat_natCast, Int.ofNat_lt, D.int.injEq, Option.some.injEq, Nat.zero_add, Nat.add_zero, bne_iff_ne, bne_eq_false_iff_eq, beq_iff_eq, beq_eq_false_iff_ne, gt_iff_lt, ne_eq, not_true_eq_false, not_false_eq_true, planIds, hasExt, cntFs, idxFs, clnFs, ovlFs, List.contains_cons, List.contains_nil, List.any_cons, List.any_nil, Nat.reduceBEq, Nat.reduceMul, Nat.reduceAdd, ↓reduceIte, hal, h0, h1, h2, h3]
    refine wl_loop (fun i a T => i = 0 ∧ a.length = 33 ∧ a[9]? = some (.int .i64 60) ∧ a[15]? = some (.int .i64 0) ∧ a[16]? = some (.int .i64 0)) 0 ?_ (by omega) ?_
    · simp (maxSteps := 1000000) (disch := omega) only [push_cast, ↓wc_seq, ↓wc_block, ↓wc_scope, ↓wc_condL, ↓wc_region, ↓wr_cons, ↓wr_consgL, ↓wr_nil, ↓wo_pickL, ↓wo_callf, ↓wc_exit, ↓wc_ret, ↓wc_skip, ↓wc_wl, wo_some, wo_none, wo_ite, opQ_eq, seqQ_normal, seqQ_exit, seqQ_ret, blockQ_normal, blockQ_exit, blockQ_ret, iterQ_normal, iterQ_exit, iterQ_ret, retQ_normal, retQ_ret, retQ_exit, pickC_true, pickC_false, pickO_true, pickO_false, gstep_tt, gstep_ff, gstep_tf, gstep_ft, gstep_skip, int_bne, int_beq, decide_not, Nat.reduceAdd, Nat.reduceMul, Nat.reduceSub, Nat.reducePow, Nat.reduceLT, Nat.reduceLeDiff, Nat.reduceEqDiff, Int.reduceToNat, Int.reduceAdd, Int.reduceSub, Int.reduceNeg, Int.reduceMul, Int.reduceLT, Int.reduceLE, Int.reduceEq, le_max, ↓wo_build, ↓wo_buildSlice, evParts, ↓reduceIte, planIds, hasExt, cntFs, idxFs, clnFs, ovlFs, List.contains_cons, List.contains_nil, List.any_cons, List.any_nil, Nat.reduceBEq, setC, List.length_set, decide_eq_true_eq, decide_eq_false_iff_not, true_implies, false_implies, forall_const, reduceCtorEq, eq_self, Int.natCast_nonneg, Int.toNat_natCast, Int.ofNat_lt, D.int.injEq, Option.some.injEq, Nat.zero_add, Nat.add_zero, bne_iff_ne, bne_eq_false_iff_eq, beq_iff_eq, beq_eq_false_iff_ne, gt_iff_lt, ne_eq, not_true_eq_false, not_false_eq_true, planIds, hasExt, cntFs, idxFs, clnFs, ovlFs, List.contains_cons, List.contains_nil, List.any_cons, List.any_nil, Nat.reduceBEq, Nat.reduceMul, Nat.reduceAdd, ↓reduceIte, hal, h0, h1, h2, h3]
    clear hal h0 h1 h2 h3 a
    rintro i a T _ ⟨rfl, hal, h9, h15, h16⟩
    simp (maxSteps := 1000000) (disch := omega) only [push_cast, ↓wc_seq, ↓wc_block, ↓wc_scope, ↓wc_condL, ↓wc_region, ↓wr_cons, ↓wr_consgL, ↓wr_nil, ↓wo_pickL, ↓wo_callf, ↓wc_exit, ↓wc_ret, ↓wc_skip, ↓wc_wl, wo_some, wo_none, wo_ite, opQ_eq, seqQ_normal, seqQ_exit, seqQ_ret, blockQ_normal, blockQ_exit, blockQ_ret, iterQ_normal, iterQ_exit, iterQ_ret, retQ_normal, retQ_ret, retQ_exit, pickC_true, pickC_false, pickO_true, pickO_false, gstep_tt, gstep_ff, gstep_tf, gstep_ft, gstep_skip, int_bne, int_beq, decide_not, Nat.reduceAdd, Nat.reduceMul, Nat.reduceSub, Nat.reducePow, Nat.reduceLT, Nat.reduceLeDiff, Nat.reduceEqDiff, Int.reduceToNat, Int.reduceAdd, Int.reduceSub, Int.reduceNeg, Int.reduceMul, Int.reduceLT, Int.reduceLE, Int.reduceEq, le_max, ↓wo_build, ↓wo_buildSlice, evParts, ↓reduceIte, planIds, hasExt, cntFs, idxFs, clnFs, ovlFs, List.contains_cons, List.contains_nil, List.any_cons, List.any_nil, Nat.reduceBEq, setC, List.length_set, decide_eq_true_eq, decide_eq_false_iff_not, true_implies, false_implies, forall_const, reduceCtorEq, eq_self, Int.natCast_nonneg, Int.toNat_natCast, Int.ofNat_lt, D.int.injEq, Option.some.injEq, Nat.zero_add, Nat.add_zero, bne_iff_ne, bne_eq_false_iff_eq, beq_iff_eq, beq_eq_false_iff_ne, gt_iff_lt, ne_eq, not_true_eq_false, not_false_eq_true, planIds, hasExt, cntFs, idxFs, clnFs, ovlFs, List.contains_cons, List.contains_nil, List.any_cons, List.any_nil, Nat.reduceBEq, Nat.reduceMul, Nat.reduceAdd, ↓reduceIte, hal, h9, h15, h16, Int.lt_irrefl, Tryd.f13]
  obtain ⟨d, T, ho, rfl⟩ := this
  exact callD_pure rfl rfl ho rfl
set_option maxHeartbeats 4000000 in
set_option maxRecDepth 100000 in
theorem Fits0_c {n : Nat} {p q : Sgm} (hn : 12 ≤ n) (hp : Near p) (hq : Near q) (st : Bool) (S : List Ob) :
    callD E (dcall E n) st S 15 [.nils, .agg p.enc, .agg q.enc] = some (.bool (fitB [] p q), S) := by
  obtain ⟨m, rfl⟩ : ∃ m, n = m + 1 := ⟨n - 1, by omega⟩
  have cm := Minutes0_c (n := m) (p := p.t) (q := p.c) (r := q.c) (by omega)
  have : WO (dcall E (m + 1) 15 [.nils, .agg p.enc, .agg q.enc] []) fun d T => d = .bool (fitB [] p q) := by
    refine wo_dcall Tryd.func15 rfl (by decide) rfl 34 rfl (fun a hal ha => ?_)
    have h0 : a[0]? = some (.nils) := ha 0 (by simp)
    have h1 : a[1]? = some (.agg p.enc) := ha 1 (by simp)
    have h2 : a[2]? = some (.agg q.enc) := ha 2 (by simp)
    clear ha
    obtain ⟨r, hr⟩ : ∃ r, fitB [] p q = r := ⟨_, rfl⟩
    rw [hr]
    unfold fitB at hr
    rw [show minL p.t p.c q.c [] = 60 from rfl] at hr
    obtain ⟨w1, w2, w3, w4⟩ := hp
    obtain ⟨v1, v2, v3, v4⟩ := hq
    have hw : IntKind.i64.wrap (q.dep - p.arr) = q.dep - p.arr := wrap_ok (by omega) (by omega)
    simp only [Sgm.enc] at h1 h2
    rw [seq_comm] at hr
    cases e1 : (q.f.toList == p.t.toList)
    · rw [e1] at hr
      obtain rfl : false = r := by rw [← hr]; rfl
      simp (maxSteps := 1000000) (disch := omega) only [push_cast, ↓wc_seq, ↓wc_block, ↓wc_scope, ↓wc_condL, ↓wc_region, ↓wr_cons, ↓wr_consgL, ↓wr_nil, ↓wo_pickL, ↓wo_callf, ↓wc_exit, ↓wc_ret, ↓wc_skip, ↓wc_wl, wo_some, wo_none, wo_ite, opQ_eq, seqQ_normal, seqQ_exit, seqQ_ret, blockQ_normal, blockQ_exit, blockQ_ret, iterQ_normal, iterQ_exit, iterQ_ret, retQ_normal, retQ_ret, retQ_exit, pickC_true, pickC_false, pickO_true, pickO_false, gstep_tt, gstep_ff, gstep_tf, gstep_ft, gstep_skip, int_bne, int_beq, decide_not, Nat.reduceAdd, Nat.reduceMul, Nat.reduceSub, Nat.reducePow, Nat.reduceLT, Nat.reduceLeDiff, Nat.reduceEqDiff, Int.reduceToNat, Int.reduceAdd, Int.reduceSub, Int.reduceNeg, Int.reduceMul, Int.reduceLT, Int.reduceLE, Int.reduceEq, le_max, ↓wo_build, ↓wo_buildSlice, evParts, ↓reduceIte, planIds, hasExt, cntFs, idxFs, clnFs, ovlFs, List.contains_cons, List.contains_nil, List.any_cons, List.any_nil, Nat.reduceBEq, setC, List.length_set, decide_eq_true_eq, decide_eq_false_iff_not, true_implies, false_implies, forall_const, reduceCtorEq, eq_self, Int.natCast_nonneg, Int.toNat_natCast, Int.ofNat_lt, D.int.injEq, Option.some.injEq, Nat.zero_add, Nat.add_zero, bne_iff_ne, bne_eq_false_iff_eq, beq_iff_eq, beq_eq_false_iff_ne, gt_iff_lt, ne_eq, not_true_eq_false, not_false_eq_true, planIds, hasExt, cntFs, idxFs, clnFs, ovlFs, List.contains_cons, List.contains_nil, List.any_cons, List.any_nil, Nat.reduceBEq, Nat.reduceMul, Nat.reduceAdd, ↓reduceIte, hal, h0, h1, h2, e1, hw, Tryd.f15]
    rw [e1] at hr
    by_cases e2 : 60 ≤ q.dep - p.arr
    · by_cases e3 : q.dep - p.arr ≤ 1440
      · obtain rfl : true = r := by rw [← hr]; simp [e2, e3]
        simp (maxSteps := 1000000) (disch := omega) only [push_cast, ↓wc_seq, ↓wc_block, ↓wc_scope, ↓wc_condL, ↓wc_region, ↓wr_cons, ↓wr_consgL, ↓wr_nil, ↓wo_pickL, ↓wo_callf, ↓wc_exit, ↓wc_ret, ↓wc_skip, ↓wc_wl, wo_some, wo_none, wo_ite, opQ_eq, seqQ_normal, seqQ_exit, seqQ_ret, blockQ_normal, blockQ_exit, blockQ_ret, iterQ_normal, iterQ_exit, iterQ_ret, retQ_normal, retQ_ret, retQ_exit, pickC_true, pickC_false, pickO_true, pickO_false, gstep_tt, gstep_ff, gstep_tf, gstep_ft, gstep_skip, int_bne, int_beq, decide_not, Nat.reduceAdd, Nat.reduceMul, Nat.reduceSub, Nat.reducePow, Nat.reduceLT, Nat.reduceLeDiff, Nat.reduceEqDiff, Int.reduceToNat, Int.reduceAdd, Int.reduceSub, Int.reduceNeg, Int.reduceMul, Int.reduceLT, Int.reduceLE, Int.reduceEq, le_max, ↓wo_build, ↓wo_buildSlice, evParts, ↓reduceIte, planIds, hasExt, cntFs, idxFs, clnFs, ovlFs, List.contains_cons, List.contains_nil, List.any_cons, List.any_nil, Nat.reduceBEq, setC, List.length_set, decide_eq_true_eq, decide_eq_false_iff_not, true_implies, false_implies, forall_const, reduceCtorEq, eq_self, Int.natCast_nonneg, Int.toNat_natCast, Int.ofNat_lt, D.int.injEq, Option.some.injEq, Nat.zero_add, Nat.add_zero, bne_iff_ne, bne_eq_false_iff_eq, beq_iff_eq, beq_eq_false_iff_ne, gt_iff_lt, ne_eq, not_true_eq_false, not_false_eq_true, planIds, hasExt, cntFs, idxFs, clnFs, ovlFs, List.contains_cons, List.contains_nil, List.any_cons, List.any_nil, Nat.reduceBEq, Nat.reduceMul, Nat.reduceAdd, ↓reduceIte, hal, h0, h1, h2, e1, hw, cm, ge_iff_le, e2, e3, Tryd.f15]
      · obtain rfl : false = r := by rw [← hr]; simp [e2, e3]
        simp (maxSteps := 1000000) (disch := omega) only [push_cast, ↓wc_seq, ↓wc_block, ↓wc_scope, ↓wc_condL, ↓wc_region, ↓wr_cons, ↓wr_consgL, ↓wr_nil, ↓wo_pickL, ↓wo_callf, ↓wc_exit, ↓wc_ret, ↓wc_skip, ↓wc_wl, wo_some, wo_none, wo_ite, opQ_eq, seqQ_normal, seqQ_exit, seqQ_ret, blockQ_normal, blockQ_exit, blockQ_ret, iterQ_normal, iterQ_exit, iterQ_ret, retQ_normal, retQ_ret, retQ_exit, pickC_true, pickC_false, pickO_true, pickO_false, gstep_tt, gstep_ff, gstep_tf, gstep_ft, gstep_skip, int_bne, int_beq, decide_not, Nat.reduceAdd, Nat.reduceMul, Nat.reduceSub, Nat.reducePow, Nat.reduceLT, Nat.reduceLeDiff, Nat.reduceEqDiff, Int.reduceToNat, Int.reduceAdd, Int.reduceSub, Int.reduceNeg, Int.reduceMul, Int.reduceLT, Int.reduceLE, Int.reduceEq, le_max, ↓wo_build, ↓wo_buildSlice, evParts, ↓reduceIte, planIds, hasExt, cntFs, idxFs, clnFs, ovlFs, List.contains_cons, List.contains_nil, List.any_cons, List.any_nil, Nat.reduceBEq, setC, List.length_set, decide_eq_true_eq, decide_eq_false_iff_not, true_implies, false_implies, forall_const, reduceCtorEq, eq_self, Int.natCast_nonneg, Int.toNat_natCast, Int.ofNat_lt, D.int.injEq, Option.some.injEq, Nat.zero_add, Nat.add_zero, bne_iff_ne, bne_eq_false_iff_eq, beq_iff_eq, beq_eq_false_iff_ne, gt_iff_lt, ne_eq, not_true_eq_false, not_false_eq_true, planIds, hasExt, cntFs, idxFs, clnFs, ovlFs, List.contains_cons, List.contains_nil, List.any_cons, List.any_nil, Nat.reduceBEq, Nat.reduceMul, Nat.reduceAdd, ↓reduceIte, hal, h0, h1, h2, e1, hw, cm, ge_iff_le, e2, e3, Tryd.f15]
    · obtain rfl : false = r := by rw [← hr]; simp [e2]
      simp (maxSteps := 1000000) (disch := omega) only [push_cast, ↓wc_seq, ↓wc_block, ↓wc_scope, ↓wc_condL, ↓wc_region, ↓wr_cons, ↓wr_consgL, ↓wr_nil, ↓wo_pickL, ↓wo_callf, ↓wc_exit, ↓wc_ret, ↓wc_skip, ↓wc_wl, wo_some, wo_none, wo_ite, opQ_eq, seqQ_normal, seqQ_exit, seqQ_ret, blockQ_normal, blockQ_exit, blockQ_ret, iterQ_normal, iterQ_exit, iterQ_ret, retQ_normal, retQ_ret, retQ_exit, pickC_true, pickC_false, pickO_true, pickO_false, gstep_tt, gstep_ff, gstep_tf, gstep_ft, gstep_skip, int_bne, int_beq, decide_not, Nat.reduceAdd, Nat.reduceMul, Nat.reduceSub, Nat.reducePow, Nat.reduceLT, Nat.reduceLeDiff, Nat.reduceEqDiff, Int.reduceToNat, Int.reduceAdd, Int.reduceSub, Int.reduceNeg, Int.reduceMul, Int.reduceLT, Int.reduceLE, Int.reduceEq, le_max, ↓wo_build, ↓wo_buildSlice, evParts, ↓reduceIte, planIds, hasExt, cntFs, idxFs, clnFs, ovlFs, List.contains_cons, List.contains_nil, List.any_cons, List.any_nil, Nat.reduceBEq, setC, List.length_set, decide_eq_true_eq, decide_eq_false_iff_not, true_implies, false_implies, forall_const, reduceCtorEq, eq_self, Int.natCast_nonneg, Int.toNat_natCast, Int.ofNat_lt, D.int.injEq, Option.some.injEq, Nat.zero_add, Nat.add_zero, bne_iff_ne, bne_eq_false_iff_eq, beq_iff_eq, beq_eq_false_iff_ne, gt_iff_lt, ne_eq, not_true_eq_false, not_false_eq_true, planIds, hasExt, cntFs, idxFs, clnFs, ovlFs, List.contains_cons, List.contains_nil, List.any_cons, List.any_nil, Nat.reduceBEq, Nat.reduceMul, Nat.reduceAdd, ↓reduceIte, hal, h0, h1, h2, e1, hw, cm, ge_iff_le, e2, Tryd.f15]
  obtain ⟨d, T, ho, rfl⟩ := this
  exact callD_pure rfl (by simp [pureL_cons, pureL_nil, D.pure, Sgm.enc]) ho rfl
/-! The segments. -/
def sBA : ByteArray := ByteArray.mk #[66, 65]
def sAF : ByteArray := ByteArray.mk #[65, 70]
def sU2 : ByteArray := ByteArray.mk #[85, 50]
def sAAA : ByteArray := ByteArray.mk #[65, 65, 65]
def sBBB : ByteArray := ByteArray.mk #[66, 66, 66]
def sCCC : ByteArray := ByteArray.mk #[67, 67, 67]
def m3 (i : Nat) : List Sgm := [⟨sBA, (i : Int) + 1, 0, sAAA, sBBB, i, 100⟩, ⟨sAF, (i : Int) + 1, 0, sBBB, sCCC, 200, 300⟩, ⟨sU2, (i : Int) + 1, 0, sAAA, sCCC, i, 300 + (i : Int)⟩]
def manyS : Nat → List Sgm
  | 0 => []
  | i + 1 => manyS i ++ m3 i
theorem manyS_len : ∀ k, (manyS k).length = 3 * k
  | 0 => rfl
  | k + 1 => by rw [manyS, List.length_append, manyS_len k]; simp [m3]; omega
theorem manyS_near : ∀ k, k ≤ 100 → ∀ s ∈ manyS k, Near s
  | 0, _, s, h => by simp [manyS] at h
  | k + 1, hk, s, h => by
    rw [manyS] at h
    rcases List.mem_append.1 h with h | h
    · exact manyS_near k (by omega) s h
    · simp only [m3, List.mem_cons, List.not_mem_nil, or_false] at h
      rcases h with rfl | rfl | rfl <;> (unfold Near; simp only; omega)
theorem seg_el : elemT Tryd.prog 26 = some 24 := by kernel_rfl
theorem seg_sz : sizeT Tryd.prog 24 = some 7 := by kernel_rfl
theorem seg_ze : zeroT Tryd.prog 24 = some (.agg [.str (ByteArray.mk #[]), .int .i64 0, .int .i64 0, .str (ByteArray.mk #[]), .str (ByteArray.mk #[]), .int .i64 0, .int .i64 0]) := by kernel_rfl
theorem seg_by : bytesT Tryd.prog 24 ≤ 1000 := Nat.le_of_ble_eq_true (by kernel_rfl)
set_option maxHeartbeats 400000 in
/-- An append of several segments. -/
theorem app_segs {S : List Ob} {d : D} {l xs : List Sgm} (h : GL 7 Sgm.enc S d l) (hl : l.length ≤ 100000) (hx : xs.length ≤ 1000) (hne : xs ≠ []) :
    ∃ S', dAppend Tryd.prog S 26 26 d (.sl 7 (xs.map Sgm.enc) true) = some (.os S.length 0 (l.length + xs.length) false, S') ∧ GL 7 Sgm.enc S' (.os S.length 0 (l.length + xs.length) false) (l ++ xs) ∧ S'.length = S.length + 1 := by
  have hb : (l.length + xs.length) * bytesT Tryd.prog 24 ≤ 140737488355328 := Nat.le_trans (Nat.mul_le_mul (show l.length + xs.length ≤ 101000 by omega) seg_by) (by decide)
  have hm : (l.length + xs.length ≤ maxLen) = True := le_max (by omega)
  have hxl : (xs.map Sgm.enc).length = xs.length := by simp
  have hx0 : xs.length ≠ 0 := fun e => hne (List.length_eq_zero_iff.1 e)
  rcases h with ⟨rfl, rfl⟩ | ⟨k, rfl, hk⟩
  · rw [List.length_nil, Nat.zero_add] at hb hm ⊢
    refine ⟨S ++ [.row 7 (xs.map Sgm.enc)], ?_, .inr ⟨S.length, by simp, by rw [List.nil_append]; exact get_end⟩, by simp⟩
    generalize xs.map Sgm.enc = ys at *
    simp only [dAppend, if_true, seg_el, seg_sz, seg_ze, D.cells, srcOf, List.length_cons, List.length_nil, hxl, hx0, hm, hb, and_self, Nat.reduceAdd, Nat.zero_add, if_false, ↓reduceIte]
  · have hel : (l.map Sgm.enc).length = l.length := by simp
    refine ⟨S.set k .dead ++ [.row 7 (l.map Sgm.enc ++ xs.map Sgm.enc)], ?_, ?_, by simp⟩
    · have ht : (l.map Sgm.enc).take l.length = l.map Sgm.enc := by rw [← hel, List.take_length]
      generalize l.map Sgm.enc = es at *
      generalize xs.map Sgm.enc = ys at *
      simp only [dAppend, if_true, seg_el, seg_sz, seg_ze, D.cells, srcOf, hk, hel, Nat.zero_add, Nat.le_refl, and_self, List.drop_zero, ht, List.length_cons, List.length_nil, hxl, hx0, hm, hb, Nat.reduceAdd, if_false, ↓reduceIte]
    · refine .inr ⟨S.length, by rw [List.length_append], ?_⟩
      rw [List.map_append]; exact get_end'
end Go.Proofs.YtgomkmamgflbeaaDoor.Dm
