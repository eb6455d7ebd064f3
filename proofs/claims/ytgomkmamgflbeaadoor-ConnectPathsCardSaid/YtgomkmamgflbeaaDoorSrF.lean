/-
  The machine at slices.SortFunc: patterns are broken, the whole sort.
-/
import Derived.Test.YtgomkmamgflbeaaDoorSrN
namespace Go.Proofs.YtgomkmamgflbeaaDoor.Dm
open Go Gw
set_option linter.unusedSimpArgs false

namespace Srt
variable {α : Type} {S0 T : List Ob} {k : Nat} {val : α → D} {d : Array α} {cf : D} {c : α → α → Int}
variable [Inhabited α]
set_option maxHeartbeats 4000000 in
set_option maxRecDepth 100000 in
theorem brk_d {n lo hi : Nat} {x : Bool} (hv : ∀ x, (val x).one = true) (hn : 50 ≤ n) (hab : lo + 12 < hi) (hb : hi ≤ d.size) (hz : d.size < 1100) (h : R S0 k val d T) :
    WO (dcall E (n + 1) 80 [.os k 0 d.size x, .int .i64 lo, .int .i64 hi, cf] T) fun _ T' => ∃ d' : Array α, R S0 k val d' T' ∧ Sort.PermIn lo hi d d' := by
  obtain ⟨ln, hln⟩ : ∃ ln, ln = hi - lo := ⟨_, rfl⟩
  have w1 : IntKind.i64.wrap ((hi : Int) - (lo : Int)) = (ln : Int) := by rw [wrap_ok (by omega) (by omega)]; omega
  have g8 : (8 : Int) ≤ (ln : Int) := by omega
  obtain ⟨m, hm1, hm2, np⟩ := np_c (n := n) (l := ln) (by omega) (by omega) (by omega)
  obtain ⟨qu, hqu⟩ : ∃ qu, qu = ln / 4 := ⟨_, rfl⟩
  have w2 : IntKind.i64.wrap ((ln : Int).tdiv 4) = (qu : Int) := by
    rw [show (4 : Int) = ((4 : Nat) : Int) from rfl, ← Int.ofNat_tdiv, wrap_ok (by omega) (by omega), hqu]
  obtain ⟨mi, hmi⟩ : ∃ mi, mi = lo + qu * 2 := ⟨_, rfl⟩
  have w3 : IntKind.i64.wrap ((lo : Int) + IntKind.i64.wrap ((qu : Int) * 2)) = (mi : Int) := by rw [wrap_ok (x := (qu : Int) * 2) (by omega) (by omega), wrap_ok (by omega) (by omega)]; omega
  obtain ⟨m0, hm0⟩ : ∃ m0, m0 = mi - 1 := ⟨_, rfl⟩
  obtain ⟨mm, hmm⟩ : ∃ mm, mm = mi + 1 := ⟨_, rfl⟩
  have w4 : IntKind.i64.wrap ((mi : Int) - 1) = (m0 : Int) := by rw [wrap_ok (by omega) (by omega)]; omega
  have w5 : IntKind.i64.wrap ((mi : Int) + 1) = (mm : Int) := by rw [wrap_ok (by omega) (by omega)]; omega
  have cv : ∀ y, (val y).cells = [val y] := fun y => cells_one (hv y)
  simp only [D.cells] at cv
  have ov := hv
  simp only [D.one] at ov
  refine wo_dcall Tryd.func80 rfl (by decide) rfl 67 rfl (fun a hal ha => ?_)
  have h0 : a[0]? = some (.os k 0 d.size x) := ha 0 (by simp)
  have h1 : a[1]? = some (.int .i64 lo) := ha 1 (by simp)
  have h2 : a[2]? = some (.int .i64 hi) := ha 2 (by simp)
  have h3 : a[3]? = some (cf) := ha 3 (by simp)
  clear ha
  have hpush := h.push (.row 1 [[.int .u64 (IntKind.u64.wrap ln)]])
  have hkl := h.lt
  have hbx : Bx .u64 (T ++ [.row 1 [[.int .u64 (IntKind.u64.wrap ln)]]]) T.length := ⟨_, get_end⟩
  have hSl := h.len
  have hTk : T.length ≠ k := by omega
  simp (maxSteps := 1000000) (disch := omega) only [push_cast, ↓wc_seq, ↓wc_block, ↓wc_scope, ↓wc_condL, ↓wc_region, ↓wr_cons, ↓wr_consgL, ↓wr_nil, ↓wo_pickL, ↓wo_callf, ↓wc_exit, ↓wc_ret, ↓wc_skip, ↓wc_wl, wo_some, wo_none, wo_ite, opQ_eq, seqQ_normal, seqQ_exit, seqQ_ret, blockQ_normal, blockQ_exit, blockQ_ret, iterQ_normal, iterQ_exit, iterQ_ret, retQ_normal, retQ_ret, retQ_exit, pickC_true, pickC_false, pickO_true, pickO_false, gstep_tt, gstep_ff, gstep_tf, gstep_ft, gstep_skip, int_bne, int_beq, decide_not, Nat.reduceAdd, Nat.reduceMul, Nat.reduceSub, Nat.reducePow, Nat.reduceLT, Nat.reduceLeDiff, Nat.reduceEqDiff, Int.reduceToNat, Int.reduceAdd, Int.reduceSub, Int.reduceNeg, Int.reduceMul, Int.reduceLT, Int.reduceLE, Int.reduceEq, le_max, ↓wo_build, ↓wo_buildSlice, evParts, ↓reduceIte, planIds, hasExt, cntFs, idxFs, clnFs, ovlFs, List.contains_cons, List.contains_nil, List.any_cons, List.any_nil, Nat.reduceBEq, setC, List.length_set, decide_eq_true_eq, decide_eq_false_iff_not, true_implies, false_implies, forall_const, reduceCtorEq, eq_self, Int.natCast_nonneg, Int.toNat_natCast, Int.ofNat_lt, D.int.injEq, Option.some.injEq, Nat.zero_add, Nat.add_zero, bne_iff_ne, bne_eq_false_iff_eq, beq_iff_eq, beq_eq_false_iff_ne, gt_iff_lt, ne_eq, not_true_eq_false, not_false_eq_true, planIds, hasExt, cntFs, idxFs, clnFs, ovlFs, List.contains_cons, List.contains_nil, List.any_cons, List.any_nil, Nat.reduceBEq, Nat.reduceMul, Nat.reduceAdd, ↓reduceIte, hal, h0, h1, h2, h3, w1, w2, w3, w4, g8, ge_iff_le, set_end, get_end, np]
  generalize T.length = tq at *
  refine wl_loop (fun r a T' => ∃ (d1 : Array α) (i : Nat), a.length = 67 ∧ a[0]? = some (.os k 0 d.size x) ∧ a[1]? = some (.int .i64 lo) ∧ a[8]? = some (.int .i64 ln) ∧ a[9]? = some (.loc tq 0 0) ∧ a[10]? = some (.int .u64 m) ∧ a[11]? = some (.int .i64 i) ∧ i = m0 + r ∧ R S0 k val d1 T' ∧ Bx .u64 T' tq ∧ Sort.PermIn lo hi d d1) 3 ?_ (by omega) ?_
  · refine ⟨d, m0, ?_⟩
    simp (maxSteps := 1000000) (disch := omega) only [push_cast, ↓wc_seq, ↓wc_block, ↓wc_scope, ↓wc_condL, ↓wc_region, ↓wr_cons, ↓wr_consgL, ↓wr_nil, ↓wo_pickL, ↓wo_callf, ↓wc_exit, ↓wc_ret, ↓wc_skip, ↓wc_wl, wo_some, wo_none, wo_ite, opQ_eq, seqQ_normal, seqQ_exit, seqQ_ret, blockQ_normal, blockQ_exit, blockQ_ret, iterQ_normal, iterQ_exit, iterQ_ret, retQ_normal, retQ_ret, retQ_exit, pickC_true, pickC_false, pickO_true, pickO_false, gstep_tt, gstep_ff, gstep_tf, gstep_ft, gstep_skip, int_bne, int_beq, decide_not, Nat.reduceAdd, Nat.reduceMul, Nat.reduceSub, Nat.reducePow, Nat.reduceLT, Nat.reduceLeDiff, Nat.reduceEqDiff, Int.reduceToNat, Int.reduceAdd, Int.reduceSub, Int.reduceNeg, Int.reduceMul, Int.reduceLT, Int.reduceLE, Int.reduceEq, le_max, ↓wo_build, ↓wo_buildSlice, evParts, ↓reduceIte, planIds, hasExt, cntFs, idxFs, clnFs, ovlFs, List.contains_cons, List.contains_nil, List.any_cons, List.any_nil, Nat.reduceBEq, setC, List.length_set, decide_eq_true_eq, decide_eq_false_iff_not, true_implies, false_implies, forall_const, reduceCtorEq, eq_self, Int.natCast_nonneg, Int.toNat_natCast, Int.ofNat_lt, D.int.injEq, Option.some.injEq, Nat.zero_add, Nat.add_zero, bne_iff_ne, bne_eq_false_iff_eq, beq_iff_eq, beq_eq_false_iff_ne, gt_iff_lt, ne_eq, not_true_eq_false, not_false_eq_true, planIds, hasExt, cntFs, idxFs, clnFs, ovlFs, List.contains_cons, List.contains_nil, List.any_cons, List.any_nil, Nat.reduceBEq, Nat.reduceMul, Nat.reduceAdd, ↓reduceIte, hal, h0, h1, h2, h3, w1, w2, w3, w4, g8, ge_iff_le, set_end, get_end, np]
    exact ⟨hpush, hbx, Sort.permIn_refl _ _ _⟩
  clear hal h0 h1 h2 h3 a
  rintro r a T' hr3 ⟨d1, i, hal, h0, h1, h8, h9, h10, h11, hi', hr, hbx, hp⟩
  have hs1 : d1.size = d.size := hp.1
  by_cases g : i ≤ mm
  case neg =>
    simp (maxSteps := 1000000) (disch := omega) only [push_cast, ↓wc_seq, ↓wc_block, ↓wc_scope, ↓wc_condL, ↓wc_region, ↓wr_cons, ↓wr_consgL, ↓wr_nil, ↓wo_pickL, ↓wo_callf, ↓wc_exit, ↓wc_ret, ↓wc_skip, ↓wc_wl, wo_some, wo_none, wo_ite, opQ_eq, seqQ_normal, seqQ_exit, seqQ_ret, blockQ_normal, blockQ_exit, blockQ_ret, iterQ_normal, iterQ_exit, iterQ_ret, retQ_normal, retQ_ret, retQ_exit, pickC_true, pickC_false, pickO_true, pickO_false, gstep_tt, gstep_ff, gstep_tf, gstep_ft, gstep_skip, int_bne, int_beq, decide_not, Nat.reduceAdd, Nat.reduceMul, Nat.reduceSub, Nat.reducePow, Nat.reduceLT, Nat.reduceLeDiff, Nat.reduceEqDiff, Int.reduceToNat, Int.reduceAdd, Int.reduceSub, Int.reduceNeg, Int.reduceMul, Int.reduceLT, Int.reduceLE, Int.reduceEq, le_max, ↓wo_build, ↓wo_buildSlice, evParts, ↓reduceIte, planIds, hasExt, cntFs, idxFs, clnFs, ovlFs, List.contains_cons, List.contains_nil, List.any_cons, List.any_nil, Nat.reduceBEq, setC, List.length_set, decide_eq_true_eq, decide_eq_false_iff_not, true_implies, false_implies, forall_const, reduceCtorEq, eq_self, Int.natCast_nonneg, Int.toNat_natCast, Int.ofNat_lt, D.int.injEq, Option.some.injEq, Nat.zero_add, Nat.add_zero, bne_iff_ne, bne_eq_false_iff_eq, beq_iff_eq, beq_eq_false_iff_ne, gt_iff_lt, ne_eq, not_true_eq_false, not_false_eq_true, planIds, hasExt, cntFs, idxFs, clnFs, ovlFs, List.contains_cons, List.contains_nil, List.any_cons, List.any_nil, Nat.reduceBEq, Nat.reduceMul, Nat.reduceAdd, ↓reduceIte, hal, h0, h1, h8, h9, h10, h11, w2, w3, w5, g, Int.ofNat_le, Tryd.f80]
    exact ⟨d1, hr, hp⟩
  obtain ⟨_, T1, c1, v, rfl, rfl⟩ := next_d (n := n - 1) hbx
  rw [show n - 1 + 1 = n by omega] at c1
  have c1 := (callD_own (f := 94) rfl loc_own).trans c1
  obtain ⟨o, ho, wo⟩ := and_mask v (m := m) (by omega) (by omega)
  have w6 : IntKind.u64.wrap ((m : Int) - 1) = (m : Int) - 1 := by
    show ((m : Int) - 1) % 18446744073709551616 = (m : Int) - 1
    omega
  have hr := hr.setq (q := tq) (o := .row 1 [[.int .u64 v]]) (by omega) hTk
  have hbq : tq < T'.length := by obtain ⟨s, hs⟩ := hbx; exact (List.getElem?_eq_some_iff.1 hs).1
  have hbx : Bx .u64 (T'.set tq (.row 1 [[.int .u64 v]])) tq := ⟨v, List.getElem?_set_self hbq⟩
  generalize T'.set tq (.row 1 [[.int .u64 v]]) = T1 at *
  -- where the other one lies
  have key : ∃ p, p < ln ∧ (p = if ln ≤ o then o - ln else o) := ⟨_, by split <;> omega, rfl⟩
  obtain ⟨p, hpl, hpe⟩ := key
  obtain ⟨q, hq⟩ : ∃ q, q = lo + p := ⟨_, rfl⟩
  have w7 : IntKind.i64.wrap ((lo : Int) + (p : Int)) = (q : Int) := by rw [wrap_ok (by omega) (by omega)]; omega
  have w9 : IntKind.i64.wrap ((i : Int) + 1) = (i : Int) + 1 := wrap_ok (by omega) (by omega)
  have b1 : i < d.size := by omega
  have b2 : q < d.size := by omega
  have l1 := row_at (val := val) (d := d1) (i := i) (by omega)
  have l2 := row_at (val := val) (d := d1) (i := q) (by omega)
  have l3 := row_at (val := val) (d := d1.setIfInBounds i d1[q]!) (i := q) (by simp; omega)
  have hkl := hr.lt
  have hkq : (k = tq) = False := eq_false (Ne.symm hTk)
  have hp' : Sort.PermIn lo hi d (Sort.swp d1 i q) := Sort.permIn_trans _ _ _ _ _ hp (Sort.swp_permIn d1 lo hi i q (by omega) (by omega) (by omega) (by omega) (by omega))
  have hb' : ∀ es, Bx .u64 (T1.set k (.row 1 es)) tq := fun es => by
    obtain ⟨s, hs⟩ := hbx
    exact ⟨s, by rw [List.getElem?_set_ne (Ne.symm hTk)]; exact hs⟩
  by_cases g2 : ln ≤ o
  · rw [if_pos g2] at hpe
    have w8 : IntKind.i64.wrap ((o : Int) - (ln : Int)) = (p : Int) := by rw [wrap_ok (by omega) (by omega)]; omega
    simp (maxSteps := 1000000) (disch := omega) only [push_cast, ↓wc_seq, ↓wc_block, ↓wc_scope, ↓wc_condL, ↓wc_region, ↓wr_cons, ↓wr_consgL, ↓wr_nil, ↓wo_pickL, ↓wo_callf, ↓wc_exit, ↓wc_ret, ↓wc_skip, ↓wc_wl, wo_some, wo_none, wo_ite, opQ_eq, seqQ_normal, seqQ_exit, seqQ_ret, blockQ_normal, blockQ_exit, blockQ_ret, iterQ_normal, iterQ_exit, iterQ_ret, retQ_normal, retQ_ret, retQ_exit, pickC_true, pickC_false, pickO_true, pickO_false, gstep_tt, gstep_ff, gstep_tf, gstep_ft, gstep_skip, int_bne, int_beq, decide_not, Nat.reduceAdd, Nat.reduceMul, Nat.reduceSub, Nat.reducePow, Nat.reduceLT, Nat.reduceLeDiff, Nat.reduceEqDiff, Int.reduceToNat, Int.reduceAdd, Int.reduceSub, Int.reduceNeg, Int.reduceMul, Int.reduceLT, Int.reduceLE, Int.reduceEq, le_max, ↓wo_build, ↓wo_buildSlice, evParts, ↓reduceIte, planIds, hasExt, cntFs, idxFs, clnFs, ovlFs, List.contains_cons, List.contains_nil, List.any_cons, List.any_nil, Nat.reduceBEq, setC, List.length_set, decide_eq_true_eq, decide_eq_false_iff_not, true_implies, false_implies, forall_const, reduceCtorEq, eq_self, Int.natCast_nonneg, Int.toNat_natCast, Int.ofNat_lt, D.int.injEq, Option.some.injEq, Nat.zero_add, Nat.add_zero, bne_iff_ne, bne_eq_false_iff_eq, beq_iff_eq, beq_eq_false_iff_ne, gt_iff_lt, ne_eq, not_true_eq_false, not_false_eq_true, planIds, hasExt, cntFs, idxFs, clnFs, ovlFs, List.contains_cons, List.contains_nil, List.any_cons, List.any_nil, Nat.reduceBEq, Nat.reduceMul, Nat.reduceAdd, ↓reduceIte, hal, h0, h1, h8, h9, h10, h11, w2, w3, w5, g, Int.ofNat_le, ge_iff_le, c1, w6, wo, g2, w7, w8, hr.row, sz_el, b1, b2, l1, l2, l3, hkl, cv, ov, row_set, List.set_set, w9]
    exact ⟨by omega, Sort.swp d1 i q, i + 1, by simp only [Int.natCast_add, Int.natCast_one], by omega, hr.put, hb' _, hp'⟩
  · rw [if_neg g2] at hpe
    subst hpe
    simp (maxSteps := 1000000) (disch := omega) only [push_cast, ↓wc_seq, ↓wc_block, ↓wc_scope, ↓wc_condL, ↓wc_region, ↓wr_cons, ↓wr_consgL, ↓wr_nil, ↓wo_pickL, ↓wo_callf, ↓wc_exit, ↓wc_ret, ↓wc_skip, ↓wc_wl, wo_some, wo_none, wo_ite, opQ_eq, seqQ_normal, seqQ_exit, seqQ_ret, blockQ_normal, blockQ_exit, blockQ_ret, iterQ_normal, iterQ_exit, iterQ_ret, retQ_normal, retQ_ret, retQ_exit, pickC_true, pickC_false, pickO_true, pickO_false, gstep_tt, gstep_ff, gstep_tf, gstep_ft, gstep_skip, int_bne, int_beq, decide_not, Nat.reduceAdd, Nat.reduceMul, Nat.reduceSub, Nat.reducePow, Nat.reduceLT, Nat.reduceLeDiff, Nat.reduceEqDiff, Int.reduceToNat, Int.reduceAdd, Int.reduceSub, Int.reduceNeg, Int.reduceMul, Int.reduceLT, Int.reduceLE, Int.reduceEq, le_max, ↓wo_build, ↓wo_buildSlice, evParts, ↓reduceIte, planIds, hasExt, cntFs, idxFs, clnFs, ovlFs, List.contains_cons, List.contains_nil, List.any_cons, List.any_nil, Nat.reduceBEq, setC, List.length_set, decide_eq_true_eq, decide_eq_false_iff_not, true_implies, false_implies, forall_const, reduceCtorEq, eq_self, Int.natCast_nonneg, Int.toNat_natCast, Int.ofNat_lt, D.int.injEq, Option.some.injEq, Nat.zero_add, Nat.add_zero, bne_iff_ne, bne_eq_false_iff_eq, beq_iff_eq, beq_eq_false_iff_ne, gt_iff_lt, ne_eq, not_true_eq_false, not_false_eq_true, planIds, hasExt, cntFs, idxFs, clnFs, ovlFs, List.contains_cons, List.contains_nil, List.any_cons, List.any_nil, Nat.reduceBEq, Nat.reduceMul, Nat.reduceAdd, ↓reduceIte, hal, h0, h1, h8, h9, h10, h11, w2, w3, w5, g, Int.ofNat_le, ge_iff_le, c1, w6, wo, g2, w7, hr.row, sz_el, b1, b2, l1, l2, l3, hkl, cv, ov, row_set, List.set_set, w9]
    exact ⟨by omega, Sort.swp d1 i q, i + 1, by simp only [Int.natCast_add, Int.natCast_one], by omega, hr.put, hb' _, hp'⟩
set_option maxHeartbeats 8000000 in
set_option maxRecDepth 100000 in
theorem pdq_d {n0 N : Nat} {x : Bool} (hv : ∀ x, (val x).one = true) (hC : CmpOk n0 S0 k val cf c) (hO : Sort.SWO (lt c)) (hz : N < 1100) :
    ∀ (m : Nat) {n lo hi : Nat} {lim : Int} {d : Array α} {T : List Ob}, hi - lo ≤ m → n0 + N + m + 60 ≤ n → d.size = N → lo ≤ hi → hi ≤ N → R S0 k val d T → Sort.Below (lt c) lo hi d →
    WO (dcall E (n + 1) 67 [.os k 0 N x, .int .i64 lo, .int .i64 hi, .int .i64 lim, cf] T) fun _ T' => ∃ d' : Array α, R S0 k val d' T' ∧ Sort.PermIn lo hi d d' ∧ Sort.SortedIn (lt c) lo hi d' := by
  intro m
  induction m with
  | zero =>
    intro n lo hi lim d T hm hn hdN hlh hhN hr hB
    obtain ⟨n', rfl⟩ : ∃ n', n = n' + 1 := ⟨n - 1, by omega⟩
    obtain ⟨_, T1, c1, r1⟩ := ins_d (n := n') (lo := lo) (hi := hi) (x := x) hv hC (by omega) hlh (by omega) (by omega) hr
    rw [hdN] at c1
    have c1 := (callD_own (f := 78) rfl pure_own).trans c1
    have w1 : IntKind.i64.wrap ((hi : Int) - (lo : Int)) = 0 := by rw [wrap_ok (by omega) (by omega)]; omega
    refine wo_dcall Tryd.func67 rfl (by decide) rfl 148 rfl (fun a hal ha => ?_)
    have h0 : a[0]? = some (.os k 0 N x) := ha 0 (by simp)
    have h1 : a[1]? = some (.int .i64 lo) := ha 1 (by simp)
    have h2 : a[2]? = some (.int .i64 hi) := ha 2 (by simp)
    have h3 : a[3]? = some (.int .i64 lim) := ha 3 (by simp)
    have h4 : a[4]? = some (cf) := ha 4 (by simp)
    clear ha
    simp (maxSteps := 1000000) (disch := omega) only [push_cast, ↓wc_seq, ↓wc_block, ↓wc_scope, ↓wc_condL, ↓wc_region, ↓wr_cons, ↓wr_consgL, ↓wr_nil, ↓wo_pickL, ↓wo_callf, ↓wc_exit, ↓wc_ret, ↓wc_skip, ↓wc_wl, wo_some, wo_none, wo_ite, opQ_eq, seqQ_normal, seqQ_exit, seqQ_ret, blockQ_normal, blockQ_exit, blockQ_ret, iterQ_normal, iterQ_exit, iterQ_ret, retQ_normal, retQ_ret, retQ_exit, pickC_true, pickC_false, pickO_true, pickO_false, gstep_tt, gstep_ff, gstep_tf, gstep_ft, gstep_skip, int_bne, int_beq, decide_not, Nat.reduceAdd, Nat.reduceMul, Nat.reduceSub, Nat.reducePow, Nat.reduceLT, Nat.reduceLeDiff, Nat.reduceEqDiff, Int.reduceToNat, Int.reduceAdd, Int.reduceSub, Int.reduceNeg, Int.reduceMul, Int.reduceLT, Int.reduceLE, Int.reduceEq, le_max, ↓wo_build, ↓wo_buildSlice, evParts, ↓reduceIte, planIds, hasExt, cntFs, idxFs, clnFs, ovlFs, List.contains_cons, List.contains_nil, List.any_cons, List.any_nil, Nat.reduceBEq, setC, List.length_set, decide_eq_true_eq, decide_eq_false_iff_not, true_implies, false_implies, forall_const, reduceCtorEq, eq_self, Int.natCast_nonneg, Int.toNat_natCast, Int.ofNat_lt, D.int.injEq, Option.some.injEq, Nat.zero_add, Nat.add_zero, bne_iff_ne, bne_eq_false_iff_eq, beq_iff_eq, beq_eq_false_iff_ne, gt_iff_lt, ne_eq, not_true_eq_false, not_false_eq_true, planIds, hasExt, cntFs, idxFs, clnFs, ovlFs, List.contains_cons, List.contains_nil, List.any_cons, List.any_nil, Nat.reduceBEq, Nat.reduceMul, Nat.reduceAdd, ↓reduceIte, hal, h0, h1, h2, h3, h4]
    refine wl_loop (fun r a T' => r = 0 ∧ T' = T ∧ a.length = 148 ∧ a[0]? = some (.os k 0 N x) ∧ a[1]? = some (.int .i64 lo) ∧ a[2]? = some (.int .i64 hi) ∧ a[3]? = some (.int .i64 lim) ∧ a[4]? = some (cf) ∧ a[10]? = some (.bool true) ∧ a[11]? = some (.bool true)) 0 ?_ (by omega) ?_
    · simp (maxSteps := 1000000) (disch := omega) only [push_cast, ↓wc_seq, ↓wc_block, ↓wc_scope, ↓wc_condL, ↓wc_region, ↓wr_cons, ↓wr_consgL, ↓wr_nil, ↓wo_pickL, ↓wo_callf, ↓wc_exit, ↓wc_ret, ↓wc_skip, ↓wc_wl, wo_some, wo_none, wo_ite, opQ_eq, seqQ_normal, seqQ_exit, seqQ_ret, blockQ_normal, blockQ_exit, blockQ_ret, iterQ_normal, iterQ_exit, iterQ_ret, retQ_normal, retQ_ret, retQ_exit, pickC_true, pickC_false, pickO_true, pickO_false, gstep_tt, gstep_ff, gstep_tf, gstep_ft, gstep_skip, int_bne, int_beq, decide_not, Nat.reduceAdd, Nat.reduceMul, Nat.reduceSub, Nat.reducePow, Nat.reduceLT, Nat.reduceLeDiff, Nat.reduceEqDiff, Int.reduceToNat, Int.reduceAdd, Int.reduceSub, Int.reduceNeg, Int.reduceMul, Int.reduceLT, Int.reduceLE, Int.reduceEq, le_max, ↓wo_build, ↓wo_buildSlice, evParts, ↓reduceIte, planIds, hasExt, cntFs, idxFs, clnFs, ovlFs, List.contains_cons, List.contains_nil, List.any_cons, List.any_nil, Nat.reduceBEq, setC, List.length_set, decide_eq_true_eq, decide_eq_false_iff_not, true_implies, false_implies, forall_const, reduceCtorEq, eq_self, Int.natCast_nonneg, Int.toNat_natCast, Int.ofNat_lt, D.int.injEq, Option.some.injEq, Nat.zero_add, Nat.add_zero, bne_iff_ne, bne_eq_false_iff_eq, beq_iff_eq, beq_eq_false_iff_ne, gt_iff_lt, ne_eq, not_true_eq_false, not_false_eq_true, planIds, hasExt, cntFs, idxFs, clnFs, ovlFs, List.contains_cons, List.contains_nil, List.any_cons, List.any_nil, Nat.reduceBEq, Nat.reduceMul, Nat.reduceAdd, ↓reduceIte, hal, h0, h1, h2, h3, h4]
    clear hal h0 h1 h2 h3 h4 a
    rintro r a T' _ ⟨rfl, rfl, hal, h0, h1, h2, h3, h4, h10, h11⟩
    simp (maxSteps := 1000000) (disch := omega) only [push_cast, ↓wc_seq, ↓wc_block, ↓wc_scope, ↓wc_condL, ↓wc_region, ↓wr_cons, ↓wr_consgL, ↓wr_nil, ↓wo_pickL, ↓wo_callf, ↓wc_exit, ↓wc_ret, ↓wc_skip, ↓wc_wl, wo_some, wo_none, wo_ite, opQ_eq, seqQ_normal, seqQ_exit, seqQ_ret, blockQ_normal, blockQ_exit, blockQ_ret, iterQ_normal, iterQ_exit, iterQ_ret, retQ_normal, retQ_ret, retQ_exit, pickC_true, pickC_false, pickO_true, pickO_false, gstep_tt, gstep_ff, gstep_tf, gstep_ft, gstep_skip, int_bne, int_beq, decide_not, Nat.reduceAdd, Nat.reduceMul, Nat.reduceSub, Nat.reducePow, Nat.reduceLT, Nat.reduceLeDiff, Nat.reduceEqDiff, Int.reduceToNat, Int.reduceAdd, Int.reduceSub, Int.reduceNeg, Int.reduceMul, Int.reduceLT, Int.reduceLE, Int.reduceEq, le_max, ↓wo_build, ↓wo_buildSlice, evParts, ↓reduceIte, planIds, hasExt, cntFs, idxFs, clnFs, ovlFs, List.contains_cons, List.contains_nil, List.any_cons, List.any_nil, Nat.reduceBEq, setC, List.length_set, decide_eq_true_eq, decide_eq_false_iff_not, true_implies, false_implies, forall_const, reduceCtorEq, eq_self, Int.natCast_nonneg, Int.toNat_natCast, Int.ofNat_lt, D.int.injEq, Option.some.injEq, Nat.zero_add, Nat.add_zero, bne_iff_ne, bne_eq_false_iff_eq, beq_iff_eq, beq_eq_false_iff_ne, gt_iff_lt, ne_eq, not_true_eq_false, not_false_eq_true, planIds, hasExt, cntFs, idxFs, clnFs, ovlFs, List.contains_cons, List.contains_nil, List.any_cons, List.any_nil, Nat.reduceBEq, Nat.reduceMul, Nat.reduceAdd, ↓reduceIte, hal, h0, h1, h2, h3, h4, h10, h11, w1, c1, Tryd.f67]
    obtain ⟨p1, p2⟩ := Sort.insertionSort_holds (lt := lt c) hO d lo hi hlh (by omega)
    exact ⟨_, r1, p1, p2⟩
  | succ m ih =>
    intro n lo hi lim d T hm hn hdN hlh hhN hr hB
    obtain ⟨n', rfl⟩ : ∃ n', n = n' + 1 := ⟨n - 1, by omega⟩
    refine wo_dcall Tryd.func67 rfl (by decide) rfl 148 rfl (fun a hal ha => ?_)
    have h0 : a[0]? = some (.os k 0 N x) := ha 0 (by simp)
    have h1 : a[1]? = some (.int .i64 lo) := ha 1 (by simp)
    have h2 : a[2]? = some (.int .i64 hi) := ha 2 (by simp)
    have h3 : a[3]? = some (.int .i64 lim) := ha 3 (by simp)
    have h4 : a[4]? = some (cf) := ha 4 (by simp)
    clear ha
    simp (maxSteps := 1000000) (disch := omega) only [push_cast, ↓wc_seq, ↓wc_block, ↓wc_scope, ↓wc_condL, ↓wc_region, ↓wr_cons, ↓wr_consgL, ↓wr_nil, ↓wo_pickL, ↓wo_callf, ↓wc_exit, ↓wc_ret, ↓wc_skip, ↓wc_wl, wo_some, wo_none, wo_ite, opQ_eq, seqQ_normal, seqQ_exit, seqQ_ret, blockQ_normal, blockQ_exit, blockQ_ret, iterQ_normal, iterQ_exit, iterQ_ret, retQ_normal, retQ_ret, retQ_exit, pickC_true, pickC_false, pickO_true, pickO_false, gstep_tt, gstep_ff, gstep_tf, gstep_ft, gstep_skip, int_bne, int_beq, decide_not, Nat.reduceAdd, Nat.reduceMul, Nat.reduceSub, Nat.reducePow, Nat.reduceLT, Nat.reduceLeDiff, Nat.reduceEqDiff, Int.reduceToNat, Int.reduceAdd, Int.reduceSub, Int.reduceNeg, Int.reduceMul, Int.reduceLT, Int.reduceLE, Int.reduceEq, le_max, ↓wo_build, ↓wo_buildSlice, evParts, ↓reduceIte, planIds, hasExt, cntFs, idxFs, clnFs, ovlFs, List.contains_cons, List.contains_nil, List.any_cons, List.any_nil, Nat.reduceBEq, setC, List.length_set, decide_eq_true_eq, decide_eq_false_iff_not, true_implies, false_implies, forall_const, reduceCtorEq, eq_self, Int.natCast_nonneg, Int.toNat_natCast, Int.ofNat_lt, D.int.injEq, Option.some.injEq, Nat.zero_add, Nat.add_zero, bne_iff_ne, bne_eq_false_iff_eq, beq_iff_eq, beq_eq_false_iff_ne, gt_iff_lt, ne_eq, not_true_eq_false, not_false_eq_true, planIds, hasExt, cntFs, idxFs, clnFs, ovlFs, List.contains_cons, List.contains_nil, List.any_cons, List.any_nil, Nat.reduceBEq, Nat.reduceMul, Nat.reduceAdd, ↓reduceIte, hal, h0, h1, h2, h3, h4]
    refine wl_loop (fun r a T' => ∃ (d1 : Array α) (p q : Nat) (l : Int) (wb wp : Bool), a.length = 148 ∧ a[0]? = some (.os k 0 N x) ∧ a[1]? = some (.int .i64 p) ∧ a[2]? = some (.int .i64 q) ∧ a[3]? = some (.int .i64 l) ∧ a[4]? = some (cf) ∧ a[10]? = some (.bool wb) ∧ a[11]? = some (.bool wp) ∧ (lo ≤ p ∧ p ≤ q ∧ q ≤ hi ∧ (q - p) + r ≤ hi - lo) ∧ d1.size = N ∧ R S0 k val d1 T' ∧ Sort.Below (lt c) p q d1 ∧ (∀ d2, Sort.PermIn p q d1 d2 → Sort.SortedIn (lt c) p q d2 → Sort.PermIn lo hi d d2 ∧ Sort.SortedIn (lt c) lo hi d2)) (hi - lo) ?_ (by omega) ?_
    · refine ⟨d, lo, hi, lim, true, true, ?_⟩
      simp (maxSteps := 1000000) (disch := omega) only [push_cast, ↓wc_seq, ↓wc_block, ↓wc_scope, ↓wc_condL, ↓wc_region, ↓wr_cons, ↓wr_consgL, ↓wr_nil, ↓wo_pickL, ↓wo_callf, ↓wc_exit, ↓wc_ret, ↓wc_skip, ↓wc_wl, wo_some, wo_none, wo_ite, opQ_eq, seqQ_normal, seqQ_exit, seqQ_ret, blockQ_normal, blockQ_exit, blockQ_ret, iterQ_normal, iterQ_exit, iterQ_ret, retQ_normal, retQ_ret, retQ_exit, pickC_true, pickC_false, pickO_true, pickO_false, gstep_tt, gstep_ff, gstep_tf, gstep_ft, gstep_skip, int_bne, int_beq, decide_not, Nat.reduceAdd, Nat.reduceMul, Nat.reduceSub, Nat.reducePow, Nat.reduceLT, Nat.reduceLeDiff, Nat.reduceEqDiff, Int.reduceToNat, Int.reduceAdd, Int.reduceSub, Int.reduceNeg, Int.reduceMul, Int.reduceLT, Int.reduceLE, Int.reduceEq, le_max, ↓wo_build, ↓wo_buildSlice, evParts, ↓reduceIte, planIds, hasExt, cntFs, idxFs, clnFs, ovlFs, List.contains_cons, List.contains_nil, List.any_cons, List.any_nil, Nat.reduceBEq, setC, List.length_set, decide_eq_true_eq, decide_eq_false_iff_not, true_implies, false_implies, forall_const, reduceCtorEq, eq_self, Int.natCast_nonneg, Int.toNat_natCast, Int.ofNat_lt, D.int.injEq, Option.some.injEq, Nat.zero_add, Nat.add_zero, bne_iff_ne, bne_eq_false_iff_eq, beq_iff_eq, beq_eq_false_iff_ne, gt_iff_lt, ne_eq, not_true_eq_false, not_false_eq_true, planIds, hasExt, cntFs, idxFs, clnFs, ovlFs, List.contains_cons, List.contains_nil, List.any_cons, List.any_nil, Nat.reduceBEq, Nat.reduceMul, Nat.reduceAdd, ↓reduceIte, hal, h0, h1, h2, h3, h4]
      exact ⟨by omega, hdN, hr, hB, fun d2 h1 h2 => ⟨h1, h2⟩⟩
    clear hal h0 h1 h2 h3 h4 a
    clear hr hB
    rintro r a T' hrN ⟨d1, p, q, l, wb, wp, hal, h0, h1, h2, h3, h4, h10, h11, ⟨hlp, hpq, hqh, hrr⟩, hs1, hr, hB, hF⟩
    obtain ⟨ln, hln⟩ : ∃ ln, ln = q - p := ⟨_, rfl⟩
    have w1 : IntKind.i64.wrap ((q : Int) - (p : Int)) = (ln : Int) := by rw [wrap_ok (by omega) (by omega)]; omega
    rw [wc_block]
    by_cases g12 : ln ≤ 12
    · obtain ⟨_, T1, c1, r1⟩ := ins_d (n := n') (lo := p) (hi := q) (x := x) hv hC (by omega) hpq (by omega) (by omega) hr
      rw [hs1] at c1
      have c1 := (callD_own (f := 78) rfl pure_own).trans c1
      have g : (ln : Int) ≤ 12 := by omega
      simp (maxSteps := 1000000) (disch := omega) only [push_cast, ↓wc_seq, ↓wc_block, ↓wc_scope, ↓wc_condL, ↓wc_region, ↓wr_cons, ↓wr_consgL, ↓wr_nil, ↓wo_pickL, ↓wo_callf, ↓wc_exit, ↓wc_ret, ↓wc_skip, ↓wc_wl, wo_some, wo_none, wo_ite, opQ_eq, seqQ_normal, seqQ_exit, seqQ_ret, blockQ_normal, blockQ_exit, blockQ_ret, iterQ_normal, iterQ_exit, iterQ_ret, retQ_normal, retQ_ret, retQ_exit, pickC_true, pickC_false, pickO_true, pickO_false, gstep_tt, gstep_ff, gstep_tf, gstep_ft, gstep_skip, int_bne, int_beq, decide_not, Nat.reduceAdd, Nat.reduceMul, Nat.reduceSub, Nat.reducePow, Nat.reduceLT, Nat.reduceLeDiff, Nat.reduceEqDiff, Int.reduceToNat, Int.reduceAdd, Int.reduceSub, Int.reduceNeg, Int.reduceMul, Int.reduceLT, Int.reduceLE, Int.reduceEq, le_max, ↓wo_build, ↓wo_buildSlice, evParts, ↓reduceIte, planIds, hasExt, cntFs, idxFs, clnFs, ovlFs, List.contains_cons, List.contains_nil, List.any_cons, List.any_nil, Nat.reduceBEq, setC, List.length_set, decide_eq_true_eq, decide_eq_false_iff_not, true_implies, false_implies, forall_const, reduceCtorEq, eq_self, Int.natCast_nonneg, Int.toNat_natCast, Int.ofNat_lt, D.int.injEq, Option.some.injEq, Nat.zero_add, Nat.add_zero, bne_iff_ne, bne_eq_false_iff_eq, beq_iff_eq, beq_eq_false_iff_ne, gt_iff_lt, ne_eq, not_true_eq_false, not_false_eq_true, planIds, hasExt, cntFs, idxFs, clnFs, ovlFs, List.contains_cons, List.contains_nil, List.any_cons, List.any_nil, Nat.reduceBEq, Nat.reduceMul, Nat.reduceAdd, ↓reduceIte, hal, h0, h1, h2, h3, h4, h10, h11, w1, g, c1, Tryd.f67]
      obtain ⟨p1, p2⟩ := Sort.insertionSort_holds (lt := lt c) hO d1 p q hpq (by omega)
      exact ⟨_, r1, hF _ p1 p2⟩
    have g : ¬ (ln : Int) ≤ 12 := by omega
    by_cases gl : l = 0
    · obtain ⟨_, T1, c1, r1⟩ := heap_d (n := n') (lo := p) (hi := q) (x := x) hv hC (by omega) (by omega) (by omega) (by omega) hr
      rw [hs1] at c1
      have c1 := (callD_own (f := 79) rfl pure_own).trans c1
      simp (maxSteps := 1000000) (disch := omega) only [push_cast, ↓wc_seq, ↓wc_block, ↓wc_scope, ↓wc_condL, ↓wc_region, ↓wr_cons, ↓wr_consgL, ↓wr_nil, ↓wo_pickL, ↓wo_callf, ↓wc_exit, ↓wc_ret, ↓wc_skip, ↓wc_wl, wo_some, wo_none, wo_ite, opQ_eq, seqQ_normal, seqQ_exit, seqQ_ret, blockQ_normal, blockQ_exit, blockQ_ret, iterQ_normal, iterQ_exit, iterQ_ret, retQ_normal, retQ_ret, retQ_exit, pickC_true, pickC_false, pickO_true, pickO_false, gstep_tt, gstep_ff, gstep_tf, gstep_ft, gstep_skip, int_bne, int_beq, decide_not, Nat.reduceAdd, Nat.reduceMul, Nat.reduceSub, Nat.reducePow, Nat.reduceLT, Nat.reduceLeDiff, Nat.reduceEqDiff, Int.reduceToNat, Int.reduceAdd, Int.reduceSub, Int.reduceNeg, Int.reduceMul, Int.reduceLT, Int.reduceLE, Int.reduceEq, le_max, ↓wo_build, ↓wo_buildSlice, evParts, ↓reduceIte, planIds, hasExt, cntFs, idxFs, clnFs, ovlFs, List.contains_cons, List.contains_nil, List.any_cons, List.any_nil, Nat.reduceBEq, setC, List.length_set, decide_eq_true_eq, decide_eq_false_iff_not, true_implies, false_implies, forall_const, reduceCtorEq, eq_self, Int.natCast_nonneg, Int.toNat_natCast, Int.ofNat_lt, D.int.injEq, Option.some.injEq, Nat.zero_add, Nat.add_zero, bne_iff_ne, bne_eq_false_iff_eq, beq_iff_eq, beq_eq_false_iff_ne, gt_iff_lt, ne_eq, not_true_eq_false, not_false_eq_true, planIds, hasExt, cntFs, idxFs, clnFs, ovlFs, List.contains_cons, List.contains_nil, List.any_cons, List.any_nil, Nat.reduceBEq, Nat.reduceMul, Nat.reduceAdd, ↓reduceIte, hal, h0, h1, h2, h3, h4, h10, h11, w1, g, gl, c1, Tryd.f67]
      obtain ⟨p1, p2⟩ := Sort.heapSort_holds (lt := lt c) hO d1 p q hpq (by omega)
      exact ⟨_, r1, hF _ p1 p2⟩
    rw [wc_asc, wc_asc]
    refine wc_scut (fun a T2 => T2 = T' ∧ a.length = 148 ∧ a[0]? = some (.os k 0 N x) ∧ a[1]? = some (.int .i64 p) ∧ a[2]? = some (.int .i64 q) ∧ a[3]? = some (.int .i64 l) ∧ a[4]? = some (cf) ∧ a[10]? = some (.bool wb) ∧ a[11]? = some (.bool wp) ∧ a[12]? = some (.int .i64 ln)) ?_ ?_
    · simp (maxSteps := 1000000) (disch := omega) only [push_cast, ↓wc_seq, ↓wc_block, ↓wc_scope, ↓wc_condL, ↓wc_region, ↓wr_cons, ↓wr_consgL, ↓wr_nil, ↓wo_pickL, ↓wo_callf, ↓wc_exit, ↓wc_ret, ↓wc_skip, ↓wc_wl, wo_some, wo_none, wo_ite, opQ_eq, seqQ_normal, seqQ_exit, seqQ_ret, blockQ_normal, blockQ_exit, blockQ_ret, iterQ_normal, iterQ_exit, iterQ_ret, retQ_normal, retQ_ret, retQ_exit, pickC_true, pickC_false, pickO_true, pickO_false, gstep_tt, gstep_ff, gstep_tf, gstep_ft, gstep_skip, int_bne, int_beq, decide_not, Nat.reduceAdd, Nat.reduceMul, Nat.reduceSub, Nat.reducePow, Nat.reduceLT, Nat.reduceLeDiff, Nat.reduceEqDiff, Int.reduceToNat, Int.reduceAdd, Int.reduceSub, Int.reduceNeg, Int.reduceMul, Int.reduceLT, Int.reduceLE, Int.reduceEq, le_max, ↓wo_build, ↓wo_buildSlice, evParts, ↓reduceIte, planIds, hasExt, cntFs, idxFs, clnFs, ovlFs, List.contains_cons, List.contains_nil, List.any_cons, List.any_nil, Nat.reduceBEq, setC, List.length_set, decide_eq_true_eq, decide_eq_false_iff_not, true_implies, false_implies, forall_const, reduceCtorEq, eq_self, Int.natCast_nonneg, Int.toNat_natCast, Int.ofNat_lt, D.int.injEq, Option.some.injEq, Nat.zero_add, Nat.add_zero, bne_iff_ne, bne_eq_false_iff_eq, beq_iff_eq, beq_eq_false_iff_ne, gt_iff_lt, ne_eq, not_true_eq_false, not_false_eq_true, planIds, hasExt, cntFs, idxFs, clnFs, ovlFs, List.contains_cons, List.contains_nil, List.any_cons, List.any_nil, Nat.reduceBEq, Nat.reduceMul, Nat.reduceAdd, ↓reduceIte, hal, h0, h1, h2, h3, h4, h10, h11, w1, g, gl]
    clear hal h0 h1 h2 h3 h4 h10 h11 a
    rintro a T2 ⟨rfl, hal, h0, h1, h2, h3, h4, h10, h11, h12⟩
    -- patterns are broken
    refine wc_scut (fun a T' => ∃ (d2 : Array α) (l : Int), a.length = 148 ∧ a[0]? = some (.os k 0 N x) ∧ a[1]? = some (.int .i64 p) ∧ a[2]? = some (.int .i64 q) ∧ a[3]? = some (.int .i64 l) ∧ a[4]? = some (cf) ∧ a[10]? = some (.bool wb) ∧ a[11]? = some (.bool wp) ∧ a[12]? = some (.int .i64 ln) ∧ R S0 k val d2 T' ∧ Sort.PermIn p q d1 d2) ?_ ?_
    · cases wb with
      | true =>
        simp (maxSteps := 1000000) (disch := omega) only [push_cast, ↓wc_seq, ↓wc_block, ↓wc_scope, ↓wc_condL, ↓wc_region, ↓wr_cons, ↓wr_consgL, ↓wr_nil, ↓wo_pickL, ↓wo_callf, ↓wc_exit, ↓wc_ret, ↓wc_skip, ↓wc_wl, wo_some, wo_none, wo_ite, opQ_eq, seqQ_normal, seqQ_exit, seqQ_ret, blockQ_normal, blockQ_exit, blockQ_ret, iterQ_normal, iterQ_exit, iterQ_ret, retQ_normal, retQ_ret, retQ_exit, pickC_true, pickC_false, pickO_true, pickO_false, gstep_tt, gstep_ff, gstep_tf, gstep_ft, gstep_skip, int_bne, int_beq, decide_not, Nat.reduceAdd, Nat.reduceMul, Nat.reduceSub, Nat.reducePow, Nat.reduceLT, Nat.reduceLeDiff, Nat.reduceEqDiff, Int.reduceToNat, Int.reduceAdd, Int.reduceSub, Int.reduceNeg, Int.reduceMul, Int.reduceLT, Int.reduceLE, Int.reduceEq, le_max, ↓wo_build, ↓wo_buildSlice, evParts, ↓reduceIte, planIds, hasExt, cntFs, idxFs, clnFs, ovlFs, List.contains_cons, List.contains_nil, List.any_cons, List.any_nil, Nat.reduceBEq, setC, List.length_set, decide_eq_true_eq, decide_eq_false_iff_not, true_implies, false_implies, forall_const, reduceCtorEq, eq_self, Int.natCast_nonneg, Int.toNat_natCast, Int.ofNat_lt, D.int.injEq, Option.some.injEq, Nat.zero_add, Nat.add_zero, bne_iff_ne, bne_eq_false_iff_eq, beq_iff_eq, beq_eq_false_iff_ne, gt_iff_lt, ne_eq, not_true_eq_false, not_false_eq_true, planIds, hasExt, cntFs, idxFs, clnFs, ovlFs, List.contains_cons, List.contains_nil, List.any_cons, List.any_nil, Nat.reduceBEq, Nat.reduceMul, Nat.reduceAdd, ↓reduceIte, hal, h0, h1, h2, h3, h4, h10, h11, h12]
        exact ⟨d1, l, rfl, hr, Sort.permIn_refl _ _ _⟩
      | false =>
        obtain ⟨_, T1, c1, d2, r2, p2⟩ := brk_d (cf := cf) (n := n') (lo := p) (hi := q) (x := x) hv (by omega) (by omega) (by omega) (by omega) hr
        rw [hs1] at c1
        have c1 := (callD_own (f := 80) rfl pure_own).trans c1
        simp (maxSteps := 1000000) (disch := omega) only [push_cast, ↓wc_seq, ↓wc_block, ↓wc_scope, ↓wc_condL, ↓wc_region, ↓wr_cons, ↓wr_consgL, ↓wr_nil, ↓wo_pickL, ↓wo_callf, ↓wc_exit, ↓wc_ret, ↓wc_skip, ↓wc_wl, wo_some, wo_none, wo_ite, opQ_eq, seqQ_normal, seqQ_exit, seqQ_ret, blockQ_normal, blockQ_exit, blockQ_ret, iterQ_normal, iterQ_exit, iterQ_ret, retQ_normal, retQ_ret, retQ_exit, pickC_true, pickC_false, pickO_true, pickO_false, gstep_tt, gstep_ff, gstep_tf, gstep_ft, gstep_skip, int_bne, int_beq, decide_not, Nat.reduceAdd, Nat.reduceMul, Nat.reduceSub, Nat.reducePow, Nat.reduceLT, Nat.reduceLeDiff, Nat.reduceEqDiff, Int.reduceToNat, Int.reduceAdd, Int.reduceSub, Int.reduceNeg, Int.reduceMul, Int.reduceLT, Int.reduceLE, Int.reduceEq, le_max, ↓wo_build, ↓wo_buildSlice, evParts, ↓reduceIte, planIds, hasExt, cntFs, idxFs, clnFs, ovlFs, List.contains_cons, List.contains_nil, List.any_cons, List.any_nil, Nat.reduceBEq, setC, List.length_set, decide_eq_true_eq, decide_eq_false_iff_not, true_implies, false_implies, forall_const, reduceCtorEq, eq_self, Int.natCast_nonneg, Int.toNat_natCast, Int.ofNat_lt, D.int.injEq, Option.some.injEq, Nat.zero_add, Nat.add_zero, bne_iff_ne, bne_eq_false_iff_eq, beq_iff_eq, beq_eq_false_iff_ne, gt_iff_lt, ne_eq, not_true_eq_false, not_false_eq_true, planIds, hasExt, cntFs, idxFs, clnFs, ovlFs, List.contains_cons, List.contains_nil, List.any_cons, List.any_nil, Nat.reduceBEq, Nat.reduceMul, Nat.reduceAdd, ↓reduceIte, hal, h0, h1, h2, h3, h4, h10, h11, h12, c1]
        exact ⟨d2, _, rfl, r2, p2⟩
    clear hal h0 h1 h2 h3 h4 h10 h11 h12 a
    clear hr gl
    rintro a T2 ⟨d2, l2, hal, h0, h1, h2, h3, h4, h10, h11, h12, hr, hP2⟩
    have hs2 : d2.size = N := by rw [hP2.1]; exact hs1
    -- the pivot
    obtain ⟨_, T3, c1, pv, e, rfl, hpv1, hpv2, r3⟩ := choose_d (n := n') (lo := p) (hi := q) (x := x) hC (by omega) (by omega) (by omega) (by omega) hr
    rw [hs2] at c1
    have c1 := (callD_own (f := 81) rfl pure_own).trans c1
    refine wc_scut (fun a T' => T' = T3 ∧ a.length = 148 ∧ a[0]? = some (.os k 0 N x) ∧ a[1]? = some (.int .i64 p) ∧ a[2]? = some (.int .i64 q) ∧ a[3]? = some (.int .i64 l2) ∧ a[4]? = some (cf) ∧ a[10]? = some (.bool wb) ∧ a[11]? = some (.bool wp) ∧ a[12]? = some (.int .i64 ln) ∧ a[13]? = some (.int .i64 pv) ∧ a[14]? = some (.int .i64 e)) ?_ ?_
    · simp (maxSteps := 1000000) (disch := omega) only [push_cast, ↓wc_seq, ↓wc_block, ↓wc_scope, ↓wc_condL, ↓wc_region, ↓wr_cons, ↓wr_consgL, ↓wr_nil, ↓wo_pickL, ↓wo_callf, ↓wc_exit, ↓wc_ret, ↓wc_skip, ↓wc_wl, wo_some, wo_none, wo_ite, opQ_eq, seqQ_normal, seqQ_exit, seqQ_ret, blockQ_normal, blockQ_exit, blockQ_ret, iterQ_normal, iterQ_exit, iterQ_ret, retQ_normal, retQ_ret, retQ_exit, pickC_true, pickC_false, pickO_true, pickO_false, gstep_tt, gstep_ff, gstep_tf, gstep_ft, gstep_skip, int_bne, int_beq, decide_not, Nat.reduceAdd, Nat.reduceMul, Nat.reduceSub, Nat.reducePow, Nat.reduceLT, Nat.reduceLeDiff, Nat.reduceEqDiff, Int.reduceToNat, Int.reduceAdd, Int.reduceSub, Int.reduceNeg, Int.reduceMul, Int.reduceLT, Int.reduceLE, Int.reduceEq, le_max, ↓wo_build, ↓wo_buildSlice, evParts, ↓reduceIte, planIds, hasExt, cntFs, idxFs, clnFs, ovlFs, List.contains_cons, List.contains_nil, List.any_cons, List.any_nil, Nat.reduceBEq, setC, List.length_set, decide_eq_true_eq, decide_eq_false_iff_not, true_implies, false_implies, forall_const, reduceCtorEq, eq_self, Int.natCast_nonneg, Int.toNat_natCast, Int.ofNat_lt, D.int.injEq, Option.some.injEq, Nat.zero_add, Nat.add_zero, bne_iff_ne, bne_eq_false_iff_eq, beq_iff_eq, beq_eq_false_iff_ne, gt_iff_lt, ne_eq, not_true_eq_false, not_false_eq_true, planIds, hasExt, cntFs, idxFs, clnFs, ovlFs, List.contains_cons, List.contains_nil, List.any_cons, List.any_nil, Nat.reduceBEq, Nat.reduceMul, Nat.reduceAdd, ↓reduceIte, hal, h0, h1, h2, h3, h4, h10, h11, h12, c1]
    clear hal h0 h1 h2 h3 h4 h10 h11 h12 a
    clear hr c1
    rintro a T' ⟨rfl, hal, h0, h1, h2, h3, h4, h10, h11, h12, h13, h14⟩
    -- the reversal
    refine wc_scut (fun a T' => ∃ (d3 : Array α) (pv : Nat) (e : Int), a.length = 148 ∧ a[0]? = some (.os k 0 N x) ∧ a[1]? = some (.int .i64 p) ∧ a[2]? = some (.int .i64 q) ∧ a[3]? = some (.int .i64 l2) ∧ a[4]? = some (cf) ∧ a[10]? = some (.bool wb) ∧ a[11]? = some (.bool wp) ∧ a[12]? = some (.int .i64 ln) ∧ a[13]? = some (.int .i64 pv) ∧ a[14]? = some (.int .i64 e) ∧ (p ≤ pv ∧ pv < q) ∧ R S0 k val d3 T' ∧ Sort.PermIn p q d1 d3) ?_ ?_
    · by_cases ge : e = 2
      · obtain ⟨_, T1, c1, r4, s4⟩ := rev_d (cf := cf) (n := n') (lo := p) (hi := q) (x := x) hv (by omega) (by omega) (by omega) (by omega) r3
        rw [hs2] at c1
        have c1 := (callD_own (f := 82) rfl pure_own).trans c1
        obtain ⟨pv2, hpv3⟩ : ∃ pv2, pv2 = (q - 1) - (pv - p) := ⟨_, rfl⟩
        have w2 : IntKind.i64.wrap (IntKind.i64.wrap ((q : Int) - 1) - IntKind.i64.wrap ((pv : Int) - (p : Int))) = (pv2 : Int) := by
          rw [wrap_ok (x := (q : Int) - 1) (by omega) (by omega), wrap_ok (x := (pv : Int) - (p : Int)) (by omega) (by omega), wrap_ok (by omega) (by omega)]; omega
        simp (maxSteps := 1000000) (disch := omega) only [push_cast, ↓wc_seq, ↓wc_block, ↓wc_scope, ↓wc_condL, ↓wc_region, ↓wr_cons, ↓wr_consgL, ↓wr_nil, ↓wo_pickL, ↓wo_callf, ↓wc_exit, ↓wc_ret, ↓wc_skip, ↓wc_wl, wo_some, wo_none, wo_ite, opQ_eq, seqQ_normal, seqQ_exit, seqQ_ret, blockQ_normal, blockQ_exit, blockQ_ret, iterQ_normal, iterQ_exit, iterQ_ret, retQ_normal, retQ_ret, retQ_exit, pickC_true, pickC_false, pickO_true, pickO_false, gstep_tt, gstep_ff, gstep_tf, gstep_ft, gstep_skip, int_bne, int_beq, decide_not, Nat.reduceAdd, Nat.reduceMul, Nat.reduceSub, Nat.reducePow, Nat.reduceLT, Nat.reduceLeDiff, Nat.reduceEqDiff, Int.reduceToNat, Int.reduceAdd, Int.reduceSub, Int.reduceNeg, Int.reduceMul, Int.reduceLT, Int.reduceLE, Int.reduceEq, le_max, ↓wo_build, ↓wo_buildSlice, evParts, ↓reduceIte, planIds, hasExt, cntFs, idxFs, clnFs, ovlFs, List.contains_cons, List.contains_nil, List.any_cons, List.any_nil, Nat.reduceBEq, setC, List.length_set, decide_eq_true_eq, decide_eq_false_iff_not, true_implies, false_implies, forall_const, reduceCtorEq, eq_self, Int.natCast_nonneg, Int.toNat_natCast, Int.ofNat_lt, D.int.injEq, Option.some.injEq, Nat.zero_add, Nat.add_zero, bne_iff_ne, bne_eq_false_iff_eq, beq_iff_eq, beq_eq_false_iff_ne, gt_iff_lt, ne_eq, not_true_eq_false, not_false_eq_true, planIds, hasExt, cntFs, idxFs, clnFs, ovlFs, List.contains_cons, List.contains_nil, List.any_cons, List.any_nil, Nat.reduceBEq, Nat.reduceMul, Nat.reduceAdd, ↓reduceIte, hal, h0, h1, h2, h3, h4, h10, h11, h12, h13, h14, ge, c1, w2]
        exact ⟨_, pv2, _, rfl, rfl, by omega, r4, Sort.permIn_trans _ _ _ _ _ hP2 (Sort.reverseRange_holds d2 p q hpq (by omega))⟩
      · simp (maxSteps := 1000000) (disch := omega) only [push_cast, ↓wc_seq, ↓wc_block, ↓wc_scope, ↓wc_condL, ↓wc_region, ↓wr_cons, ↓wr_consgL, ↓wr_nil, ↓wo_pickL, ↓wo_callf, ↓wc_exit, ↓wc_ret, ↓wc_skip, ↓wc_wl, wo_some, wo_none, wo_ite, opQ_eq, seqQ_normal, seqQ_exit, seqQ_ret, blockQ_normal, blockQ_exit, blockQ_ret, iterQ_normal, iterQ_exit, iterQ_ret, retQ_normal, retQ_ret, retQ_exit, pickC_true, pickC_false, pickO_true, pickO_false, gstep_tt, gstep_ff, gstep_tf, gstep_ft, gstep_skip, int_bne, int_beq, decide_not, Nat.reduceAdd, Nat.reduceMul, Nat.reduceSub, Nat.reducePow, Nat.reduceLT, Nat.reduceLeDiff, Nat.reduceEqDiff, Int.reduceToNat, Int.reduceAdd, Int.reduceSub, Int.reduceNeg, Int.reduceMul, Int.reduceLT, Int.reduceLE, Int.reduceEq, le_max, ↓wo_build, ↓wo_buildSlice, evParts, ↓reduceIte, planIds, hasExt, cntFs, idxFs, clnFs, ovlFs, List.contains_cons, List.contains_nil, List.any_cons, List.any_nil, Nat.reduceBEq, setC, List.length_set, decide_eq_true_eq, decide_eq_false_iff_not, true_implies, false_implies, forall_const, reduceCtorEq, eq_self, Int.natCast_nonneg, Int.toNat_natCast, Int.ofNat_lt, D.int.injEq, Option.some.injEq, Nat.zero_add, Nat.add_zero, bne_iff_ne, bne_eq_false_iff_eq, beq_iff_eq, beq_eq_false_iff_ne, gt_iff_lt, ne_eq, not_true_eq_false, not_false_eq_true, planIds, hasExt, cntFs, idxFs, clnFs, ovlFs, List.contains_cons, List.contains_nil, List.any_cons, List.any_nil, Nat.reduceBEq, Nat.reduceMul, Nat.reduceAdd, ↓reduceIte, hal, h0, h1, h2, h3, h4, h10, h11, h12, h13, h14, ge]
        exact ⟨d2, pv, e, rfl, rfl, by omega, r3, hP2⟩
    clear hal h0 h1 h2 h3 h4 h10 h11 h12 h13 h14 a
    clear r3 hpv1 hpv2 hP2 hs2
    rintro a T2 ⟨d3, pv, e, hal, h0, h1, h2, h3, h4, h10, h11, h12, h13, h14, ⟨hpv1, hpv2⟩, hr, hP3⟩
    have hs3 : d3.size = N := by rw [hP3.1]; exact hs1
    have hB3 : Sort.Below (lt c) p q d3 := Sort.Below.permA Sort.permIn_all (by omega) hB hP3
    -- the part that is sorted already
    obtain ⟨_, T4, c2, rfl, r4, s4⟩ := pIns_d (n := n') (lo := p) (hi := q) (x := x) hv hC (by omega) (by omega) (by omega) (by omega) hr
    rw [hs3] at c2
    have c2 := (callD_own (f := 83) rfl pure_own).trans c2
    obtain ⟨pp, ps⟩ := Sort.partialInsertionSort_holds (lt := lt c) hO d3 p q (by omega) (by omega) hB3
    generalize Sort.partialInsertionSort (lt c) d3 p q = z at *
    obtain ⟨d4', b4⟩ := z
    simp only at c2 r4 s4 pp ps
    by_cases gg : wb = true ∧ wp = true ∧ e = 1 ∧ b4 = true
    · obtain ⟨rfl, rfl, rfl, rfl⟩ := gg
      simp (maxSteps := 1000000) (disch := omega) only [push_cast, ↓wc_seq, ↓wc_block, ↓wc_scope, ↓wc_condL, ↓wc_region, ↓wr_cons, ↓wr_consgL, ↓wr_nil, ↓wo_pickL, ↓wo_callf, ↓wc_exit, ↓wc_ret, ↓wc_skip, ↓wc_wl, wo_some, wo_none, wo_ite, opQ_eq, seqQ_normal, seqQ_exit, seqQ_ret, blockQ_normal, blockQ_exit, blockQ_ret, iterQ_normal, iterQ_exit, iterQ_ret, retQ_normal, retQ_ret, retQ_exit, pickC_true, pickC_false, pickO_true, pickO_false, gstep_tt, gstep_ff, gstep_tf, gstep_ft, gstep_skip, int_bne, int_beq, decide_not, Nat.reduceAdd, Nat.reduceMul, Nat.reduceSub, Nat.reducePow, Nat.reduceLT, Nat.reduceLeDiff, Nat.reduceEqDiff, Int.reduceToNat, Int.reduceAdd, Int.reduceSub, Int.reduceNeg, Int.reduceMul, Int.reduceLT, Int.reduceLE, Int.reduceEq, le_max, ↓wo_build, ↓wo_buildSlice, evParts, ↓reduceIte, planIds, hasExt, cntFs, idxFs, clnFs, ovlFs, List.contains_cons, List.contains_nil, List.any_cons, List.any_nil, Nat.reduceBEq, setC, List.length_set, decide_eq_true_eq, decide_eq_false_iff_not, true_implies, false_implies, forall_const, reduceCtorEq, eq_self, Int.natCast_nonneg, Int.toNat_natCast, Int.ofNat_lt, D.int.injEq, Option.some.injEq, Nat.zero_add, Nat.add_zero, bne_iff_ne, bne_eq_false_iff_eq, beq_iff_eq, beq_eq_false_iff_ne, gt_iff_lt, ne_eq, not_true_eq_false, not_false_eq_true, planIds, hasExt, cntFs, idxFs, clnFs, ovlFs, List.contains_cons, List.contains_nil, List.any_cons, List.any_nil, Nat.reduceBEq, Nat.reduceMul, Nat.reduceAdd, ↓reduceIte, hal, h0, h1, h2, h3, h4, h10, h11, h12, h13, h14, c2, Tryd.f67]
      exact ⟨_, r4, hF _ (Sort.permIn_trans _ _ _ _ _ hP3 pp) (ps rfl)⟩
    refine wc_scut (fun a T' => ∃ (d4 : Array α), a.length = 148 ∧ a[0]? = some (.os k 0 N x) ∧ a[1]? = some (.int .i64 p) ∧ a[2]? = some (.int .i64 q) ∧ a[3]? = some (.int .i64 l2) ∧ a[4]? = some (cf) ∧ a[10]? = some (.bool wb) ∧ a[11]? = some (.bool wp) ∧ a[12]? = some (.int .i64 ln) ∧ a[13]? = some (.int .i64 pv) ∧ R S0 k val d4 T' ∧ Sort.PermIn p q d1 d4) ?_ ?_
    · cases wb with
      | false =>
        simp (maxSteps := 1000000) (disch := omega) only [push_cast, ↓wc_seq, ↓wc_block, ↓wc_scope, ↓wc_condL, ↓wc_region, ↓wr_cons, ↓wr_consgL, ↓wr_nil, ↓wo_pickL, ↓wo_callf, ↓wc_exit, ↓wc_ret, ↓wc_skip, ↓wc_wl, wo_some, wo_none, wo_ite, opQ_eq, seqQ_normal, seqQ_exit, seqQ_ret, blockQ_normal, blockQ_exit, blockQ_ret, iterQ_normal, iterQ_exit, iterQ_ret, retQ_normal, retQ_ret, retQ_exit, pickC_true, pickC_false, pickO_true, pickO_false, gstep_tt, gstep_ff, gstep_tf, gstep_ft, gstep_skip, int_bne, int_beq, decide_not, Nat.reduceAdd, Nat.reduceMul, Nat.reduceSub, Nat.reducePow, Nat.reduceLT, Nat.reduceLeDiff, Nat.reduceEqDiff, Int.reduceToNat, Int.reduceAdd, Int.reduceSub, Int.reduceNeg, Int.reduceMul, Int.reduceLT, Int.reduceLE, Int.reduceEq, le_max, ↓wo_build, ↓wo_buildSlice, evParts, ↓reduceIte, planIds, hasExt, cntFs, idxFs, clnFs, ovlFs, List.contains_cons, List.contains_nil, List.any_cons, List.any_nil, Nat.reduceBEq, setC, List.length_set, decide_eq_true_eq, decide_eq_false_iff_not, true_implies, false_implies, forall_const, reduceCtorEq, eq_self, Int.natCast_nonneg, Int.toNat_natCast, Int.ofNat_lt, D.int.injEq, Option.some.injEq, Nat.zero_add, Nat.add_zero, bne_iff_ne, bne_eq_false_iff_eq, beq_iff_eq, beq_eq_false_iff_ne, gt_iff_lt, ne_eq, not_true_eq_false, not_false_eq_true, planIds, hasExt, cntFs, idxFs, clnFs, ovlFs, List.contains_cons, List.contains_nil, List.any_cons, List.any_nil, Nat.reduceBEq, Nat.reduceMul, Nat.reduceAdd, ↓reduceIte, hal, h0, h1, h2, h3, h4, h10, h11, h12, h13, h14]
        exact ⟨d3, hr, hP3⟩
      | true =>
        cases wp with
        | false =>
          simp (maxSteps := 1000000) (disch := omega) only [push_cast, ↓wc_seq, ↓wc_block, ↓wc_scope, ↓wc_condL, ↓wc_region, ↓wr_cons, ↓wr_consgL, ↓wr_nil, ↓wo_pickL, ↓wo_callf, ↓wc_exit, ↓wc_ret, ↓wc_skip, ↓wc_wl, wo_some, wo_none, wo_ite, opQ_eq, seqQ_normal, seqQ_exit, seqQ_ret, blockQ_normal, blockQ_exit, blockQ_ret, iterQ_normal, iterQ_exit, iterQ_ret, retQ_normal, retQ_ret, retQ_exit, pickC_true, pickC_false, pickO_true, pickO_false, gstep_tt, gstep_ff, gstep_tf, gstep_ft, gstep_skip, int_bne, int_beq, decide_not, Nat.reduceAdd, Nat.reduceMul, Nat.reduceSub, Nat.reducePow, Nat.reduceLT, Nat.reduceLeDiff, Nat.reduceEqDiff, Int.reduceToNat, Int.reduceAdd, Int.reduceSub, Int.reduceNeg, Int.reduceMul, Int.reduceLT, Int.reduceLE, Int.reduceEq, le_max, ↓wo_build, ↓wo_buildSlice, evParts, ↓reduceIte, planIds, hasExt, cntFs, idxFs, clnFs, ovlFs, List.contains_cons, List.contains_nil, List.any_cons, List.any_nil, Nat.reduceBEq, setC, List.length_set, decide_eq_true_eq, decide_eq_false_iff_not, true_implies, false_implies, forall_const, reduceCtorEq, eq_self, Int.natCast_nonneg, Int.toNat_natCast, Int.ofNat_lt, D.int.injEq, Option.some.injEq, Nat.zero_add, Nat.add_zero, bne_iff_ne, bne_eq_false_iff_eq, beq_iff_eq, beq_eq_false_iff_ne, gt_iff_lt, ne_eq, not_true_eq_false, not_false_eq_true, planIds, hasExt, cntFs, idxFs, clnFs, ovlFs, List.contains_cons, List.contains_nil, List.any_cons, List.any_nil, Nat.reduceBEq, Nat.reduceMul, Nat.reduceAdd, ↓reduceIte, hal, h0, h1, h2, h3, h4, h10, h11, h12, h13, h14]
          exact ⟨d3, hr, hP3⟩
        | true =>
          by_cases ge : e = 1
          case neg =>
            simp (maxSteps := 1000000) (disch := omega) only [push_cast, ↓wc_seq, ↓wc_block, ↓wc_scope, ↓wc_condL, ↓wc_region, ↓wr_cons, ↓wr_consgL, ↓wr_nil, ↓wo_pickL, ↓wo_callf, ↓wc_exit, ↓wc_ret, ↓wc_skip, ↓wc_wl, wo_some, wo_none, wo_ite, opQ_eq, seqQ_normal, seqQ_exit, seqQ_ret, blockQ_normal, blockQ_exit, blockQ_ret, iterQ_normal, iterQ_exit, iterQ_ret, retQ_normal, retQ_ret, retQ_exit, pickC_true, pickC_false, pickO_true, pickO_false, gstep_tt, gstep_ff, gstep_tf, gstep_ft, gstep_skip, int_bne, int_beq, decide_not, Nat.reduceAdd, Nat.reduceMul, Nat.reduceSub, Nat.reducePow, Nat.reduceLT, Nat.reduceLeDiff, Nat.reduceEqDiff, Int.reduceToNat, Int.reduceAdd, Int.reduceSub, Int.reduceNeg, Int.reduceMul, Int.reduceLT, Int.reduceLE, Int.reduceEq, le_max, ↓wo_build, ↓wo_buildSlice, evParts, ↓reduceIte, planIds, hasExt, cntFs, idxFs, clnFs, ovlFs, List.contains_cons, List.contains_nil, List.any_cons, List.any_nil, Nat.reduceBEq, setC, List.length_set, decide_eq_true_eq, decide_eq_false_iff_not, true_implies, false_implies, forall_const, reduceCtorEq, eq_self, Int.natCast_nonneg, Int.toNat_natCast, Int.ofNat_lt, D.int.injEq, Option.some.injEq, Nat.zero_add, Nat.add_zero, bne_iff_ne, bne_eq_false_iff_eq, beq_iff_eq, beq_eq_false_iff_ne, gt_iff_lt, ne_eq, not_true_eq_false, not_false_eq_true, planIds, hasExt, cntFs, idxFs, clnFs, ovlFs, List.contains_cons, List.contains_nil, List.any_cons, List.any_nil, Nat.reduceBEq, Nat.reduceMul, Nat.reduceAdd, ↓reduceIte, hal, h0, h1, h2, h3, h4, h10, h11, h12, h13, h14, ge]
            exact ⟨d3, hr, hP3⟩
          obtain rfl : b4 = false := by
            cases b4 with
            | false => rfl
            | true => exact absurd ⟨rfl, rfl, ge, rfl⟩ gg
          simp (maxSteps := 1000000) (disch := omega) only [push_cast, ↓wc_seq, ↓wc_block, ↓wc_scope, ↓wc_condL, ↓wc_region, ↓wr_cons, ↓wr_consgL, ↓wr_nil, ↓wo_pickL, ↓wo_callf, ↓wc_exit, ↓wc_ret, ↓wc_skip, ↓wc_wl, wo_some, wo_none, wo_ite, opQ_eq, seqQ_normal, seqQ_exit, seqQ_ret, blockQ_normal, blockQ_exit, blockQ_ret, iterQ_normal, iterQ_exit, iterQ_ret, retQ_normal, retQ_ret, retQ_exit, pickC_true, pickC_false, pickO_true, pickO_false, gstep_tt, gstep_ff, gstep_tf, gstep_ft, gstep_skip, int_bne, int_beq, decide_not, Nat.reduceAdd, Nat.reduceMul, Nat.reduceSub, Nat.reducePow, Nat.reduceLT, Nat.reduceLeDiff, Nat.reduceEqDiff, Int.reduceToNat, Int.reduceAdd, Int.reduceSub, Int.reduceNeg, Int.reduceMul, Int.reduceLT, Int.reduceLE, Int.reduceEq, le_max, ↓wo_build, ↓wo_buildSlice, evParts, ↓reduceIte, planIds, hasExt, cntFs, idxFs, clnFs, ovlFs, List.contains_cons, List.contains_nil, List.any_cons, List.any_nil, Nat.reduceBEq, setC, List.length_set, decide_eq_true_eq, decide_eq_false_iff_not, true_implies, false_implies, forall_const, reduceCtorEq, eq_self, Int.natCast_nonneg, Int.toNat_natCast, Int.ofNat_lt, D.int.injEq, Option.some.injEq, Nat.zero_add, Nat.add_zero, bne_iff_ne, bne_eq_false_iff_eq, beq_iff_eq, beq_eq_false_iff_ne, gt_iff_lt, ne_eq, not_true_eq_false, not_false_eq_true, planIds, hasExt, cntFs, idxFs, clnFs, ovlFs, List.contains_cons, List.contains_nil, List.any_cons, List.any_nil, Nat.reduceBEq, Nat.reduceMul, Nat.reduceAdd, ↓reduceIte, hal, h0, h1, h2, h3, h4, h10, h11, h12, h13, h14, ge, c2]
          exact ⟨d4', r4, Sort.permIn_trans _ _ _ _ _ hP3 pp⟩
    clear hal h0 h1 h2 h3 h4 h10 h11 h12 h13 h14 a
    clear hr hP3 hs3 hB3 c2 r4 s4 pp ps gg
    rintro a T2 ⟨d4, hal, h0, h1, h2, h3, h4, h10, h11, h12, h13, hr, hP4⟩
    have hs4 : d4.size = N := by rw [hP4.1]; exact hs1
    have hB4 : Sort.Below (lt c) p q d4 := Sort.Below.permA Sort.permIn_all (by omega) hB hP4
    have b2 : pv < N := by omega
    have i2 := row_at (val := val) (d := d4) (i := pv) (by omega)
    -- many equal ones
    by_cases geq : 0 < p ∧ lt c d4[p - 1]! d4[pv]! = false
    · obtain ⟨gp, ge⟩ := geq
      obtain ⟨p1, hp1⟩ : ∃ p1, p = p1 + 1 := ⟨p - 1, by omega⟩
      have hp1' : p - 1 = p1 := by omega
      rw [hp1'] at ge
      have w2 : IntKind.i64.wrap ((p : Int) - 1) = (p1 : Int) := by rw [wrap_ok (by omega) (by omega)]; omega
      have gp' : (0 : Int) < (p : Int) := by omega
      have b1 : p1 < N := by omega
      have i1 := row_at (val := val) (d := d4) (i := p1) (by omega)
      have cc := fun st => hC (n' + 1) (by omega) d4 T2 hr st d4[p1]! d4[pv]!
      have ge' : ¬ c d4[p1]! d4[pv]! < 0 := by simpa [lt] using ge
      obtain ⟨_, T5, c3, rfl, r5, s5⟩ := partEq_d (n := n') (lo := p) (hi := q) (pv := pv) (x := x) hv hC (by omega) hpv1 hpv2 (by omega) (by omega) hr
      rw [hs4] at c3
      have c3 := (callD_own (f := 84) rfl pure_own).trans c3
      obtain ⟨⟨mid, d5⟩, hx⟩ : ∃ z, Sort.partitionEqual (lt c) d4 p q pv = z := ⟨_, rfl⟩
      rw [hx] at c3 r5 s5
      try simp only at c3 r5 s5
      obtain ⟨k1, k2, k3, k4, k5⟩ := Sort.round_eq hO (Sort.partitionEqual_holds (lt c)) gp hpv1 hpv2 (by omega) hB4 (by rw [hp1']; exact ge) hx
      simp (maxSteps := 1000000) (disch := omega) only [push_cast, ↓wc_seq, ↓wc_block, ↓wc_scope, ↓wc_condL, ↓wc_region, ↓wr_cons, ↓wr_consgL, ↓wr_nil, ↓wo_pickL, ↓wo_callf, ↓wc_exit, ↓wc_ret, ↓wc_skip, ↓wc_wl, wo_some, wo_none, wo_ite, opQ_eq, seqQ_normal, seqQ_exit, seqQ_ret, blockQ_normal, blockQ_exit, blockQ_ret, iterQ_normal, iterQ_exit, iterQ_ret, retQ_normal, retQ_ret, retQ_exit, pickC_true, pickC_false, pickO_true, pickO_false, gstep_tt, gstep_ff, gstep_tf, gstep_ft, gstep_skip, int_bne, int_beq, decide_not, Nat.reduceAdd, Nat.reduceMul, Nat.reduceSub, Nat.reducePow, Nat.reduceLT, Nat.reduceLeDiff, Nat.reduceEqDiff, Int.reduceToNat, Int.reduceAdd, Int.reduceSub, Int.reduceNeg, Int.reduceMul, Int.reduceLT, Int.reduceLE, Int.reduceEq, le_max, ↓wo_build, ↓wo_buildSlice, evParts, ↓reduceIte, planIds, hasExt, cntFs, idxFs, clnFs, ovlFs, List.contains_cons, List.contains_nil, List.any_cons, List.any_nil, Nat.reduceBEq, setC, List.length_set, decide_eq_true_eq, decide_eq_false_iff_not, true_implies, false_implies, forall_const, reduceCtorEq, eq_self, Int.natCast_nonneg, Int.toNat_natCast, Int.ofNat_lt, D.int.injEq, Option.some.injEq, Nat.zero_add, Nat.add_zero, bne_iff_ne, bne_eq_false_iff_eq, beq_iff_eq, beq_eq_false_iff_ne, gt_iff_lt, ne_eq, not_true_eq_false, not_false_eq_true, planIds, hasExt, cntFs, idxFs, clnFs, ovlFs, List.contains_cons, List.contains_nil, List.any_cons, List.any_nil, Nat.reduceBEq, Nat.reduceMul, Nat.reduceAdd, ↓reduceIte, hal, h0, h1, h2, h3, h4, h10, h11, h12, h13, w2, gp', gt_iff_lt, hr.row, sz_el, b1, b2, i1, i2, ↓wo_callv, cc, ge', c3]
      refine ⟨by omega, d5, mid, q, l2, wb, wp, rfl, rfl, rfl, rfl, rfl, by omega, by omega, r5, k4, fun d6 h1 h2 => ?_⟩
      obtain ⟨m1, m2⟩ := k5 d6 h1 h2
      exact hF d6 (Sort.permIn_trans _ _ _ _ _ hP4 m1) m2
    refine wc_scut (fun a T' => T' = T2 ∧ a.length = 148 ∧ a[0]? = some (.os k 0 N x) ∧ a[1]? = some (.int .i64 p) ∧ a[2]? = some (.int .i64 q) ∧ a[3]? = some (.int .i64 l2) ∧ a[4]? = some (cf) ∧ a[10]? = some (.bool wb) ∧ a[11]? = some (.bool wp) ∧ a[12]? = some (.int .i64 ln) ∧ a[13]? = some (.int .i64 pv)) ?_ ?_
    · by_cases gp : 0 < p
      · obtain ⟨p1, hp1⟩ : ∃ p1, p = p1 + 1 := ⟨p - 1, by omega⟩
        have hp1' : p - 1 = p1 := by omega
        have w2 : IntKind.i64.wrap ((p : Int) - 1) = (p1 : Int) := by rw [wrap_ok (by omega) (by omega)]; omega
        have gp' : (0 : Int) < (p : Int) := by omega
        have b1 : p1 < N := by omega
        have i1 := row_at (val := val) (d := d4) (i := p1) (by omega)
        have cc := fun st => hC (n' + 1) (by omega) d4 T2 hr st d4[p1]! d4[pv]!
        have ge' : c d4[p1]! d4[pv]! < 0 := by
          have h := geq
          rw [hp1'] at h
          simpa [lt, gp] using h
        simp (maxSteps := 1000000) (disch := omega) only [push_cast, ↓wc_seq, ↓wc_block, ↓wc_scope, ↓wc_condL, ↓wc_region, ↓wr_cons, ↓wr_consgL, ↓wr_nil, ↓wo_pickL, ↓wo_callf, ↓wc_exit, ↓wc_ret, ↓wc_skip, ↓wc_wl, wo_some, wo_none, wo_ite, opQ_eq, seqQ_normal, seqQ_exit, seqQ_ret, blockQ_normal, blockQ_exit, blockQ_ret, iterQ_normal, iterQ_exit, iterQ_ret, retQ_normal, retQ_ret, retQ_exit, pickC_true, pickC_false, pickO_true, pickO_false, gstep_tt, gstep_ff, gstep_tf, gstep_ft, gstep_skip, int_bne, int_beq, decide_not, Nat.reduceAdd, Nat.reduceMul, Nat.reduceSub, Nat.reducePow, Nat.reduceLT, Nat.reduceLeDiff, Nat.reduceEqDiff, Int.reduceToNat, Int.reduceAdd, Int.reduceSub, Int.reduceNeg, Int.reduceMul, Int.reduceLT, Int.reduceLE, Int.reduceEq, le_max, ↓wo_build, ↓wo_buildSlice, evParts, ↓reduceIte, planIds, hasExt, cntFs, idxFs, clnFs, ovlFs, List.contains_cons, List.contains_nil, List.any_cons, List.any_nil, Nat.reduceBEq, setC, List.length_set, decide_eq_true_eq, decide_eq_false_iff_not, true_implies, false_implies, forall_const, reduceCtorEq, eq_self, Int.natCast_nonneg, Int.toNat_natCast, Int.ofNat_lt, D.int.injEq, Option.some.injEq, Nat.zero_add, Nat.add_zero, bne_iff_ne, bne_eq_false_iff_eq, beq_iff_eq, beq_eq_false_iff_ne, gt_iff_lt, ne_eq, not_true_eq_false, not_false_eq_true, planIds, hasExt, cntFs, idxFs, clnFs, ovlFs, List.contains_cons, List.contains_nil, List.any_cons, List.any_nil, Nat.reduceBEq, Nat.reduceMul, Nat.reduceAdd, ↓reduceIte, hal, h0, h1, h2, h3, h4, h10, h11, h12, h13, w2, gp', gt_iff_lt, hr.row, sz_el, b1, b2, i1, i2, ↓wo_callv, cc, ge']
      · have gp' : ¬ (0 : Int) < (p : Int) := by omega
        simp (maxSteps := 1000000) (disch := omega) only [push_cast, ↓wc_seq, ↓wc_block, ↓wc_scope, ↓wc_condL, ↓wc_region, ↓wr_cons, ↓wr_consgL, ↓wr_nil, ↓wo_pickL, ↓wo_callf, ↓wc_exit, ↓wc_ret, ↓wc_skip, ↓wc_wl, wo_some, wo_none, wo_ite, opQ_eq, seqQ_normal, seqQ_exit, seqQ_ret, blockQ_normal, blockQ_exit, blockQ_ret, iterQ_normal, iterQ_exit, iterQ_ret, retQ_normal, retQ_ret, retQ_exit, pickC_true, pickC_false, pickO_true, pickO_false, gstep_tt, gstep_ff, gstep_tf, gstep_ft, gstep_skip, int_bne, int_beq, decide_not, Nat.reduceAdd, Nat.reduceMul, Nat.reduceSub, Nat.reducePow, Nat.reduceLT, Nat.reduceLeDiff, Nat.reduceEqDiff, Int.reduceToNat, Int.reduceAdd, Int.reduceSub, Int.reduceNeg, Int.reduceMul, Int.reduceLT, Int.reduceLE, Int.reduceEq, le_max, ↓wo_build, ↓wo_buildSlice, evParts, ↓reduceIte, planIds, hasExt, cntFs, idxFs, clnFs, ovlFs, List.contains_cons, List.contains_nil, List.any_cons, List.any_nil, Nat.reduceBEq, setC, List.length_set, decide_eq_true_eq, decide_eq_false_iff_not, true_implies, false_implies, forall_const, reduceCtorEq, eq_self, Int.natCast_nonneg, Int.toNat_natCast, Int.ofNat_lt, D.int.injEq, Option.some.injEq, Nat.zero_add, Nat.add_zero, bne_iff_ne, bne_eq_false_iff_eq, beq_iff_eq, beq_eq_false_iff_ne, gt_iff_lt, ne_eq, not_true_eq_false, not_false_eq_true, planIds, hasExt, cntFs, idxFs, clnFs, ovlFs, List.contains_cons, List.contains_nil, List.any_cons, List.any_nil, Nat.reduceBEq, Nat.reduceMul, Nat.reduceAdd, ↓reduceIte, hal, h0, h1, h2, h3, h4, h10, h11, h12, h13, gp', gt_iff_lt]
    clear hal h0 h1 h2 h3 h4 h10 h11 h12 h13 a
    clear geq i2
    rintro a T5 ⟨rfl, hal, h0, h1, h2, h3, h4, h10, h11, h12, h13⟩
    obtain ⟨_, T5, c3, rfl, r5, s5⟩ := part_d (n := n') (lo := p) (hi := q) (pv := pv) (x := x) hv hC (by omega) hpv1 hpv2 (by omega) (by omega) hr
    rw [hs4] at c3
    have c3 := (callD_own (f := 85) rfl pure_own).trans c3
    obtain ⟨⟨mid, ap, d5⟩, hx⟩ : ∃ z, Sort.partition (lt c) d4 p q pv = z := ⟨_, rfl⟩
    rw [hx] at c3 r5 s5
    try simp only at c3 r5 s5
    obtain ⟨k1, k2, k3, k4, k5, k6, k7⟩ := Sort.round_part hO (Sort.partition_holds (lt c)) hpv1 hpv2 (by omega) hB4 hx
    obtain ⟨le, hle⟩ : ∃ le, le = mid - p := ⟨_, rfl⟩
    obtain ⟨ri, hri⟩ : ∃ ri, ri = q - mid := ⟨_, rfl⟩
    obtain ⟨mi1, hmi1⟩ : ∃ mi1, mi1 = mid + 1 := ⟨_, rfl⟩
    have w2 : IntKind.i64.wrap ((mid : Int) - (p : Int)) = (le : Int) := by rw [wrap_ok (by omega) (by omega)]; omega
    have w3 : IntKind.i64.wrap ((q : Int) - (mid : Int)) = (ri : Int) := by rw [wrap_ok (by omega) (by omega)]; omega
    have w4 : IntKind.i64.wrap ((mid : Int) + 1) = (mi1 : Int) := by rw [wrap_ok (by omega) (by omega)]; omega
    by_cases glr : le < ri
    · obtain ⟨_, T6, c4, d6, r6, q6, t6⟩ := ih (n := n') (lo := p) (hi := mid) (lim := l2) (d := d5) (T := T5) (by omega) (by omega) (by omega) k1 (by omega) r5 k4
      have c4 := (callD_own (f := 67) rfl pure_own).trans c4
      obtain ⟨m1, m2⟩ := k6 d6 q6 t6
      have hs6 : d6.size = N := by rw [q6.1]; omega
      simp (maxSteps := 1000000) (disch := omega) only [push_cast, ↓wc_seq, ↓wc_block, ↓wc_scope, ↓wc_condL, ↓wc_region, ↓wr_cons, ↓wr_consgL, ↓wr_nil, ↓wo_pickL, ↓wo_callf, ↓wc_exit, ↓wc_ret, ↓wc_skip, ↓wc_wl, wo_some, wo_none, wo_ite, opQ_eq, seqQ_normal, seqQ_exit, seqQ_ret, blockQ_normal, blockQ_exit, blockQ_ret, iterQ_normal, iterQ_exit, iterQ_ret, retQ_normal, retQ_ret, retQ_exit, pickC_true, pickC_false, pickO_true, pickO_false, gstep_tt, gstep_ff, gstep_tf, gstep_ft, gstep_skip, int_bne, int_beq, decide_not, Nat.reduceAdd, Nat.reduceMul, Nat.reduceSub, Nat.reducePow, Nat.reduceLT, Nat.reduceLeDiff, Nat.reduceEqDiff, Int.reduceToNat, Int.reduceAdd, Int.reduceSub, Int.reduceNeg, Int.reduceMul, Int.reduceLT, Int.reduceLE, Int.reduceEq, le_max, ↓wo_build, ↓wo_buildSlice, evParts, ↓reduceIte, planIds, hasExt, cntFs, idxFs, clnFs, ovlFs, List.contains_cons, List.contains_nil, List.any_cons, List.any_nil, Nat.reduceBEq, setC, List.length_set, decide_eq_true_eq, decide_eq_false_iff_not, true_implies, false_implies, forall_const, reduceCtorEq, eq_self, Int.natCast_nonneg, Int.toNat_natCast, Int.ofNat_lt, D.int.injEq, Option.some.injEq, Nat.zero_add, Nat.add_zero, bne_iff_ne, bne_eq_false_iff_eq, beq_iff_eq, beq_eq_false_iff_ne, gt_iff_lt, ne_eq, not_true_eq_false, not_false_eq_true, planIds, hasExt, cntFs, idxFs, clnFs, ovlFs, List.contains_cons, List.contains_nil, List.any_cons, List.any_nil, Nat.reduceBEq, Nat.reduceMul, Nat.reduceAdd, ↓reduceIte, hal, h0, h1, h2, h3, h4, h10, h11, h12, h13, c3, w2, w3, w4, glr, c4]
      refine ⟨by omega, d6, mi1, q, l2, _, ap, rfl, rfl, rfl, rfl, rfl, by omega, hs6, r6, by rw [hmi1]; exact m1, fun d7 h1 h2 => ?_⟩
      rw [hmi1] at h1 h2
      obtain ⟨e1, e2⟩ := m2 d7 h1 h2
      exact hF d7 (Sort.permIn_trans _ _ _ _ _ hP4 e1) e2
    · obtain ⟨_, T6, c4, d6, r6, q6, t6⟩ := ih (n := n') (lo := mi1) (hi := q) (lim := l2) (d := d5) (T := T5) (by omega) (by omega) (by omega) (by omega) (by omega) r5 (by rw [hmi1]; exact k5)
      have c4 := (callD_own (f := 67) rfl pure_own).trans c4
      rw [hmi1] at q6 t6
      obtain ⟨m1, m2⟩ := k7 d6 q6 t6
      have hs6 : d6.size = N := by rw [q6.1]; omega
      simp (maxSteps := 1000000) (disch := omega) only [push_cast, ↓wc_seq, ↓wc_block, ↓wc_scope, ↓wc_condL, ↓wc_region, ↓wr_cons, ↓wr_consgL, ↓wr_nil, ↓wo_pickL, ↓wo_callf, ↓wc_exit, ↓wc_ret, ↓wc_skip, ↓wc_wl, wo_some, wo_none, wo_ite, opQ_eq, seqQ_normal, seqQ_exit, seqQ_ret, blockQ_normal, blockQ_exit, blockQ_ret, iterQ_normal, iterQ_exit, iterQ_ret, retQ_normal, retQ_ret, retQ_exit, pickC_true, pickC_false, pickO_true, pickO_false, gstep_tt, gstep_ff, gstep_tf, gstep_ft, gstep_skip, int_bne, int_beq, decide_not, Nat.reduceAdd, Nat.reduceMul, Nat.reduceSub, Nat.reducePow, Nat.reduceLT, Nat.reduceLeDiff, Nat.reduceEqDiff, Int.reduceToNat, Int.reduceAdd, Int.reduceSub, Int.reduceNeg, Int.reduceMul, Int.reduceLT, Int.reduceLE, Int.reduceEq, le_max, ↓wo_build, ↓wo_buildSlice, evParts, ↓reduceIte, planIds, hasExt, cntFs, idxFs, clnFs, ovlFs, List.contains_cons, List.contains_nil, List.any_cons, List.any_nil, Nat.reduceBEq, setC, List.length_set, decide_eq_true_eq, decide_eq_false_iff_not, true_implies, false_implies, forall_const, reduceCtorEq, eq_self, Int.natCast_nonneg, Int.toNat_natCast, Int.ofNat_lt, D.int.injEq, Option.some.injEq, Nat.zero_add, Nat.add_zero, bne_iff_ne, bne_eq_false_iff_eq, beq_iff_eq, beq_eq_false_iff_ne, gt_iff_lt, ne_eq, not_true_eq_false, not_false_eq_true, planIds, hasExt, cntFs, idxFs, clnFs, ovlFs, List.contains_cons, List.contains_nil, List.any_cons, List.any_nil, Nat.reduceBEq, Nat.reduceMul, Nat.reduceAdd, ↓reduceIte, hal, h0, h1, h2, h3, h4, h10, h11, h12, h13, c3, w2, w3, w4, glr, c4]
      refine ⟨by omega, d6, p, mid, l2, _, ap, rfl, rfl, rfl, rfl, rfl, by omega, hs6, r6, m1, fun d7 h1 h2 => ?_⟩
      obtain ⟨e1, e2⟩ := m2 d7 h1 h2
      exact hF d7 (Sort.permIn_trans _ _ _ _ _ hP4 e1) e2
set_option maxHeartbeats 4000000 in
set_option maxRecDepth 100000 in
/-- The whole sort. -/
theorem sort_d {n n0 : Nat} {x : Bool} (hv : ∀ x, (val x).one = true) (hC : CmpOk n0 S0 k val cf c) (hO : Sort.SWO (lt c)) (hz : d.size < 1100) (hn : n0 + 2 * d.size + 70 ≤ n) (h : R S0 k val d T) :
    WO (dcall E (n + 1) 42 [.os k 0 d.size x, cf] T) fun _ T' => ∃ d' : Array α, R S0 k val d' T' ∧ Sort.PermIn 0 d.size d d' ∧ Sort.SortedIn (lt c) 0 d.size d' := by
  obtain ⟨n', rfl⟩ : ∃ n', n = n' + 1 := ⟨n - 1, by omega⟩
  obtain ⟨lim, bl⟩ := bl_c (n := n' + 1) (by omega) hz
  obtain ⟨_, T1, c1, d1, r1, p1, s1⟩ := pdq_d (x := x) hv hC hO hz d.size (n := n') (lo := 0) (hi := d.size) (lim := lim) (by omega) (by omega) rfl (by omega) (by omega) h (.inl rfl)
  have c1 := (callD_own (f := 67) rfl pure_own).trans c1
  rw [Int.natCast_zero] at c1
  have w1 : IntKind.u64.wrap (d.size : Int) = (d.size : Int) := by
    show ((d.size : Int)) % 18446744073709551616 = d.size
    omega
  refine wo_dcall Tryd.func42 rfl (by decide) rfl 14 rfl (fun a hal ha => ?_)
  have h0 : a[0]? = some (.os k 0 d.size x) := ha 0 (by simp)
  have h1 : a[1]? = some (cf) := ha 1 (by simp)
  clear ha
  simp (maxSteps := 1000000) (disch := omega) only [push_cast, ↓wc_seq, ↓wc_block, ↓wc_scope, ↓wc_condL, ↓wc_region, ↓wr_cons, ↓wr_consgL, ↓wr_nil, ↓wo_pickL, ↓wo_callf, ↓wc_exit, ↓wc_ret, ↓wc_skip, ↓wc_wl, wo_some, wo_none, wo_ite, opQ_eq, seqQ_normal, seqQ_exit, seqQ_ret, blockQ_normal, blockQ_exit, blockQ_ret, iterQ_normal, iterQ_exit, iterQ_ret, retQ_normal, retQ_ret, retQ_exit, pickC_true, pickC_false, pickO_true, pickO_false, gstep_tt, gstep_ff, gstep_tf, gstep_ft, gstep_skip, int_bne, int_beq, decide_not, Nat.reduceAdd, Nat.reduceMul, Nat.reduceSub, Nat.reducePow, Nat.reduceLT, Nat.reduceLeDiff, Nat.reduceEqDiff, Int.reduceToNat, Int.reduceAdd, Int.reduceSub, Int.reduceNeg, Int.reduceMul, Int.reduceLT, Int.reduceLE, Int.reduceEq, le_max, ↓wo_build, ↓wo_buildSlice, evParts, ↓reduceIte, planIds, hasExt, cntFs, idxFs, clnFs, ovlFs, List.contains_cons, List.contains_nil, List.any_cons, List.any_nil, Nat.reduceBEq, setC, List.length_set, decide_eq_true_eq, decide_eq_false_iff_not, true_implies, false_implies, forall_const, reduceCtorEq, eq_self, Int.natCast_nonneg, Int.toNat_natCast, Int.ofNat_lt, D.int.injEq, Option.some.injEq, Nat.zero_add, Nat.add_zero, bne_iff_ne, bne_eq_false_iff_eq, beq_iff_eq, beq_eq_false_iff_ne, gt_iff_lt, ne_eq, not_true_eq_false, not_false_eq_true, planIds, hasExt, cntFs, idxFs, clnFs, ovlFs, List.contains_cons, List.contains_nil, List.any_cons, List.any_nil, Nat.reduceBEq, Nat.reduceMul, Nat.reduceAdd, ↓reduceIte, hal, h0, h1, w1, bl, c1, Tryd.f42]
  exact ⟨d1, r1, p1, s1⟩
end Srt
end Go.Proofs.YtgomkmamgflbeaaDoor.Dm
