/-
  The machine at slices.SortFunc: partial insertion sort.
  The machine at slices.SortFunc: the pivot, the patterns that are broken.
-/
import Derived.Test.YtgomkmamgflbeaaDoorSrC
namespace Go.Proofs.YtgomkmamgflbeaaDoor.Dm
open Go Gw
set_option linter.unusedSimpArgs false

namespace Srt
variable {α : Type} {S0 T : List Ob} {k : Nat} {val : α → D} {d : Array α} {cf : D} {c : α → α → Int}
variable [Inhabited α]
theorem shiftDown_size {p : α → α → Bool} : ∀ {j : Nat} {d : Array α}, (Sort.shiftDown p j d).size = d.size
  | 0, d => rfl
  | j + 1, d => by
    rw [Sort.shiftDown]
    split
    · rfl
    · rw [shiftDown_size, swp_size]
theorem shiftUp_size {p : α → α → Bool} {b : Nat} : ∀ {m j : Nat} {d : Array α}, b - j = m → (Sort.shiftUp p b j d).size = d.size := by
  intro m
  induction m with
  | zero => intro j d h; rw [Sort.shiftUp, if_neg (by omega)]
  | succ m ih =>
    intro j d h
    rw [Sort.shiftUp]
    split
    · split
      · rfl
      · rw [ih (by omega), swp_size]
    · rfl
theorem scanSorted_ge {p : α → α → Bool} {d : Array α} {b : Nat} : ∀ {m i : Nat}, b - i = m → i ≤ Sort.scanSorted p d b i := by
  intro m
  induction m with
  | zero => intro i h; rw [Sort.scanSorted]; split
            · simp_all; omega
            · exact Nat.le_refl _
  | succ m ih =>
    intro i h
    rw [Sort.scanSorted]
    split
    · exact Nat.le_trans (Nat.le_succ i) (ih (by omega))
    · exact Nat.le_refl _
theorem scanSorted_le {p : α → α → Bool} {d : Array α} {b : Nat} : ∀ {m i : Nat}, b - i = m → i ≤ b → Sort.scanSorted p d b i ≤ b := by
  intro m
  induction m with
  | zero => intro i h hb; rw [Sort.scanSorted]; split
            · simp_all; omega
            · exact hb
  | succ m ih =>
    intro i h hb
    rw [Sort.scanSorted]
    split
    · exact ih (by omega) (by omega)
    · exact hb
set_option maxHeartbeats 8000000 in
set_option maxRecDepth 100000 in
theorem pIns_d {n n0 lo hi : Nat} {x : Bool} (hv : ∀ x, (val x).one = true) (hC : CmpOk n0 S0 k val cf c) (hn : n0 + d.size + 8 ≤ n) (hab : lo < hi) (hb : hi ≤ d.size) (hz : d.size ≤ 100000) (h : R S0 k val d T) :
    WO (dcall E (n + 1) 83 [.os k 0 d.size x, .int .i64 lo, .int .i64 hi, cf] T) fun r T' => r = .bool (Sort.partialInsertionSort (lt c) d lo hi).2 ∧ R S0 k val (Sort.partialInsertionSort (lt c) d lo hi).1 T' ∧ (Sort.partialInsertionSort (lt c) d lo hi).1.size = d.size := by
  refine wo_dcall Tryd.func83 rfl (by decide) rfl 141 rfl (fun a hal ha => ?_)
  have h0 : a[0]? = some (.os k 0 d.size x) := ha 0 (by simp)
  have h1 : a[1]? = some (.int .i64 lo) := ha 1 (by simp)
  have h2 : a[2]? = some (.int .i64 hi) := ha 2 (by simp)
  have h3 : a[3]? = some (cf) := ha 3 (by simp)
  clear ha
  have cv : ∀ y, (val y).cells = [val y] := fun y => cells_one (hv y)
  simp only [D.cells] at cv
  have ov := hv
  simp only [D.one] at ov
  unfold Sort.partialInsertionSort
  simp (maxSteps := 1000000) (disch := omega) only [push_cast, ↓wc_seq, ↓wc_block, ↓wc_scope, ↓wc_condL, ↓wc_region, ↓wr_cons, ↓wr_consgL, ↓wr_nil, ↓wo_pickL, ↓wo_callf, ↓wc_exit, ↓wc_ret, ↓wc_skip, ↓wc_wl, wo_some, wo_none, wo_ite, opQ_eq, seqQ_normal, seqQ_exit, seqQ_ret, blockQ_normal, blockQ_exit, blockQ_ret, iterQ_normal, iterQ_exit, iterQ_ret, retQ_normal, retQ_ret, retQ_exit, pickC_true, pickC_false, pickO_true, pickO_false, gstep_tt, gstep_ff, gstep_tf, gstep_ft, gstep_skip, int_bne, int_beq, decide_not, Nat.reduceAdd, Nat.reduceMul, Nat.reduceSub, Nat.reducePow, Nat.reduceLT, Nat.reduceLeDiff, Nat.reduceEqDiff, Int.reduceToNat, Int.reduceAdd, Int.reduceSub, Int.reduceNeg, Int.reduceMul, Int.reduceLT, Int.reduceLE, Int.reduceEq, le_max, ↓wo_build, ↓wo_buildSlice, evParts, ↓reduceIte, planIds, hasExt, cntFs, idxFs, clnFs, ovlFs, List.contains_cons, List.contains_nil, List.any_cons, List.any_nil, Nat.reduceBEq, setC, List.length_set, decide_eq_true_eq, decide_eq_false_iff_not, true_implies, false_implies, forall_const, reduceCtorEq, eq_self, Int.natCast_nonneg, Int.toNat_natCast, Int.ofNat_lt, D.int.injEq, Option.some.injEq, Nat.zero_add, Nat.add_zero, bne_iff_ne, bne_eq_false_iff_eq, beq_iff_eq, beq_eq_false_iff_ne, gt_iff_lt, ne_eq, not_true_eq_false, not_false_eq_true, planIds, hasExt, cntFs, idxFs, clnFs, ovlFs, List.contains_cons, List.contains_nil, List.any_cons, List.any_nil, Nat.reduceBEq, Nat.reduceMul, Nat.reduceAdd, ↓reduceIte, hal, h0, h1, h2, h3, wrap_ok]
  refine wl_loop (fun r a T' => ∃ (d1 : Array α) (i : Nat), a.length = 141 ∧ a[0]? = some (.os k 0 d.size x) ∧ a[1]? = some (.int .i64 lo) ∧ a[2]? = some (.int .i64 hi) ∧ a[3]? = some (cf) ∧ a[9]? = some (.int .i64 i) ∧ a[10]? = some (.int .i64 r) ∧ (lo + 1 ≤ i ∧ i ≤ hi ∧ r ≤ 5) ∧ d1.size = d.size ∧ R S0 k val d1 T' ∧ Sort.partialIns (lt c) lo hi 5 (lo + 1) d = Sort.partialIns (lt c) lo hi (5 - r) i d1) 5 ?_ (by omega) ?_
  · refine ⟨d, lo + 1, ?_⟩
    simp (maxSteps := 1000000) (disch := omega) only [push_cast, ↓wc_seq, ↓wc_block, ↓wc_scope, ↓wc_condL, ↓wc_region, ↓wr_cons, ↓wr_consgL, ↓wr_nil, ↓wo_pickL, ↓wo_callf, ↓wc_exit, ↓wc_ret, ↓wc_skip, ↓wc_wl, wo_some, wo_none, wo_ite, opQ_eq, seqQ_normal, seqQ_exit, seqQ_ret, blockQ_normal, blockQ_exit, blockQ_ret, iterQ_normal, iterQ_exit, iterQ_ret, retQ_normal, retQ_ret, retQ_exit, pickC_true, pickC_false, pickO_true, pickO_false, gstep_tt, gstep_ff, gstep_tf, gstep_ft, gstep_skip, int_bne, int_beq, decide_not, Nat.reduceAdd, Nat.reduceMul, Nat.reduceSub, Nat.reducePow, Nat.reduceLT, Nat.reduceLeDiff, Nat.reduceEqDiff, Int.reduceToNat, Int.reduceAdd, Int.reduceSub, Int.reduceNeg, Int.reduceMul, Int.reduceLT, Int.reduceLE, Int.reduceEq, le_max, ↓wo_build, ↓wo_buildSlice, evParts, ↓reduceIte, planIds, hasExt, cntFs, idxFs, clnFs, ovlFs, List.contains_cons, List.contains_nil, List.any_cons, List.any_nil, Nat.reduceBEq, setC, List.length_set, decide_eq_true_eq, decide_eq_false_iff_not, true_implies, false_implies, forall_const, reduceCtorEq, eq_self, Int.natCast_nonneg, Int.toNat_natCast, Int.ofNat_lt, D.int.injEq, Option.some.injEq, Nat.zero_add, Nat.add_zero, bne_iff_ne, bne_eq_false_iff_eq, beq_iff_eq, beq_eq_false_iff_ne, gt_iff_lt, ne_eq, not_true_eq_false, not_false_eq_true, planIds, hasExt, cntFs, idxFs, clnFs, ovlFs, List.contains_cons, List.contains_nil, List.any_cons, List.any_nil, Nat.reduceBEq, Nat.reduceMul, Nat.reduceAdd, ↓reduceIte, hal, h0, h1, h2, h3, Int.natCast_add, Int.natCast_one, Int.natCast_zero, wrap_ok]
    exact ⟨by omega, h⟩
  clear hal h0 h1 h2 h3 a
  clear h
  rintro r a T1 hr5 ⟨d1, i, hal, h0, h1, h2, h3, h9, h10, ⟨hli, hih, -⟩, hs1, hr, hq⟩
  rcases Nat.lt_or_eq_of_le hr5 with hlt | rfl
  case inr =>
    rw [Nat.sub_self, Sort.partialIns] at hq
    have g : ¬ (((5 : Nat) : Int) < 5) := by omega
    simp (maxSteps := 1000000) (disch := omega) only [push_cast, ↓wc_seq, ↓wc_block, ↓wc_scope, ↓wc_condL, ↓wc_region, ↓wr_cons, ↓wr_consgL, ↓wr_nil, ↓wo_pickL, ↓wo_callf, ↓wc_exit, ↓wc_ret, ↓wc_skip, ↓wc_wl, wo_some, wo_none, wo_ite, opQ_eq, seqQ_normal, seqQ_exit, seqQ_ret, blockQ_normal, blockQ_exit, blockQ_ret, iterQ_normal, iterQ_exit, iterQ_ret, retQ_normal, retQ_ret, retQ_exit, pickC_true, pickC_false, pickO_true, pickO_false, gstep_tt, gstep_ff, gstep_tf, gstep_ft, gstep_skip, int_bne, int_beq, decide_not, Nat.reduceAdd, Nat.reduceMul, Nat.reduceSub, Nat.reducePow, Nat.reduceLT, Nat.reduceLeDiff, Nat.reduceEqDiff, Int.reduceToNat, Int.reduceAdd, Int.reduceSub, Int.reduceNeg, Int.reduceMul, Int.reduceLT, Int.reduceLE, Int.reduceEq, le_max, ↓wo_build, ↓wo_buildSlice, evParts, ↓reduceIte, planIds, hasExt, cntFs, idxFs, clnFs, ovlFs, List.contains_cons, List.contains_nil, List.any_cons, List.any_nil, Nat.reduceBEq, setC, List.length_set, decide_eq_true_eq, decide_eq_false_iff_not, true_implies, false_implies, forall_const, reduceCtorEq, eq_self, Int.natCast_nonneg, Int.toNat_natCast, Int.ofNat_lt, D.int.injEq, Option.some.injEq, Nat.zero_add, Nat.add_zero, bne_iff_ne, bne_eq_false_iff_eq, beq_iff_eq, beq_eq_false_iff_ne, gt_iff_lt, ne_eq, not_true_eq_false, not_false_eq_true, planIds, hasExt, cntFs, idxFs, clnFs, ovlFs, List.contains_cons, List.contains_nil, List.any_cons, List.any_nil, Nat.reduceBEq, Nat.reduceMul, Nat.reduceAdd, ↓reduceIte, hal, h0, h1, h2, h3, h9, h10, g, Tryd.f83]
    rw [hq]; exact ⟨rfl, hr, hs1⟩
  have g5 : ((r : Int) < 5) := by omega
  rw [show 5 - r = (5 - (r + 1)) + 1 by omega, Sort.partialIns_succ (lt := lt c) lo hi (5 - (r + 1)) i d1] at hq
  have hres : ∃ e, e = Sort.scanSorted (lt c) d1 hi i := ⟨_, rfl⟩
  obtain ⟨e, he⟩ := hres
  have hie : i ≤ e := by rw [he]; exact scanSorted_ge rfl
  have heh : e ≤ hi := by rw [he]; exact scanSorted_le rfl hih
  simp only [← he] at hq
  refine wc_scut (fun a T' => T' = T1 ∧ a.length = 141 ∧ a[0]? = some (.os k 0 d.size x) ∧ a[1]? = some (.int .i64 lo) ∧ a[2]? = some (.int .i64 hi) ∧ a[3]? = some (cf) ∧ a[9]? = some (.int .i64 i) ∧ a[10]? = some (.int .i64 r)) ?_ ?_
  · simp (maxSteps := 1000000) (disch := omega) only [push_cast, ↓wc_seq, ↓wc_block, ↓wc_scope, ↓wc_condL, ↓wc_region, ↓wr_cons, ↓wr_consgL, ↓wr_nil, ↓wo_pickL, ↓wo_callf, ↓wc_exit, ↓wc_ret, ↓wc_skip, ↓wc_wl, wo_some, wo_none, wo_ite, opQ_eq, seqQ_normal, seqQ_exit, seqQ_ret, blockQ_normal, blockQ_exit, blockQ_ret, iterQ_normal, iterQ_exit, iterQ_ret, retQ_normal, retQ_ret, retQ_exit, pickC_true, pickC_false, pickO_true, pickO_false, gstep_tt, gstep_ff, gstep_tf, gstep_ft, gstep_skip, int_bne, int_beq, decide_not, Nat.reduceAdd, Nat.reduceMul, Nat.reduceSub, Nat.reducePow, Nat.reduceLT, Nat.reduceLeDiff, Nat.reduceEqDiff, Int.reduceToNat, Int.reduceAdd, Int.reduceSub, Int.reduceNeg, Int.reduceMul, Int.reduceLT, Int.reduceLE, Int.reduceEq, le_max, ↓wo_build, ↓wo_buildSlice, evParts, ↓reduceIte, planIds, hasExt, cntFs, idxFs, clnFs, ovlFs, List.contains_cons, List.contains_nil, List.any_cons, List.any_nil, Nat.reduceBEq, setC, List.length_set, decide_eq_true_eq, decide_eq_false_iff_not, true_implies, false_implies, forall_const, reduceCtorEq, eq_self, Int.natCast_nonneg, Int.toNat_natCast, Int.ofNat_lt, D.int.injEq, Option.some.injEq, Nat.zero_add, Nat.add_zero, bne_iff_ne, bne_eq_false_iff_eq, beq_iff_eq, beq_eq_false_iff_ne, gt_iff_lt, ne_eq, not_true_eq_false, not_false_eq_true, planIds, hasExt, cntFs, idxFs, clnFs, ovlFs, List.contains_cons, List.contains_nil, List.any_cons, List.any_nil, Nat.reduceBEq, Nat.reduceMul, Nat.reduceAdd, ↓reduceIte, hal, h0, h1, h2, h3, h9, h10, g5]
  clear hal h0 h1 h2 h3 h9 h10 a
  rintro a T' ⟨rfl, hal, h0, h1, h2, h3, h9, h10⟩
  rw [wc_seq, wc_block]
  -- the scan
  refine wc_scut (fun a T2 => T2 = T' ∧ a.length = 141 ∧ a[0]? = some (.os k 0 d.size x) ∧ a[1]? = some (.int .i64 lo) ∧ a[2]? = some (.int .i64 hi) ∧ a[3]? = some (cf) ∧ a[9]? = some (.int .i64 e) ∧ a[10]? = some (.int .i64 r)) ?_ ?_
  · simp (maxSteps := 1000000) (disch := omega) only [push_cast, ↓wc_seq, ↓wc_block, ↓wc_scope, ↓wc_condL, ↓wc_region, ↓wr_cons, ↓wr_consgL, ↓wr_nil, ↓wo_pickL, ↓wo_callf, ↓wc_exit, ↓wc_ret, ↓wc_skip, ↓wc_wl, wo_some, wo_none, wo_ite, opQ_eq, seqQ_normal, seqQ_exit, seqQ_ret, blockQ_normal, blockQ_exit, blockQ_ret, iterQ_normal, iterQ_exit, iterQ_ret, retQ_normal, retQ_ret, retQ_exit, pickC_true, pickC_false, pickO_true, pickO_false, gstep_tt, gstep_ff, gstep_tf, gstep_ft, gstep_skip, int_bne, int_beq, decide_not, Nat.reduceAdd, Nat.reduceMul, Nat.reduceSub, Nat.reducePow, Nat.reduceLT, Nat.reduceLeDiff, Nat.reduceEqDiff, Int.reduceToNat, Int.reduceAdd, Int.reduceSub, Int.reduceNeg, Int.reduceMul, Int.reduceLT, Int.reduceLE, Int.reduceEq, le_max, ↓wo_build, ↓wo_buildSlice, evParts, ↓reduceIte, planIds, hasExt, cntFs, idxFs, clnFs, ovlFs, List.contains_cons, List.contains_nil, List.any_cons, List.any_nil, Nat.reduceBEq, setC, List.length_set, decide_eq_true_eq, decide_eq_false_iff_not, true_implies, false_implies, forall_const, reduceCtorEq, eq_self, Int.natCast_nonneg, Int.toNat_natCast, Int.ofNat_lt, D.int.injEq, Option.some.injEq, Nat.zero_add, Nat.add_zero, bne_iff_ne, bne_eq_false_iff_eq, beq_iff_eq, beq_eq_false_iff_ne, gt_iff_lt, ne_eq, not_true_eq_false, not_false_eq_true, planIds, hasExt, cntFs, idxFs, clnFs, ovlFs, List.contains_cons, List.contains_nil, List.any_cons, List.any_nil, Nat.reduceBEq, Nat.reduceMul, Nat.reduceAdd, ↓reduceIte, hal, h0, h1, h2, h3, h9, h10]
    refine wl_loop (fun s a T2 => ∃ u : Nat, a.length = 141 ∧ a[0]? = some (.os k 0 d.size x) ∧ a[1]? = some (.int .i64 lo) ∧ a[2]? = some (.int .i64 hi) ∧ a[3]? = some (cf) ∧ a[9]? = some (.int .i64 u) ∧ a[10]? = some (.int .i64 r) ∧ T2 = T' ∧ u = i + s ∧ e = Sort.scanSorted (lt c) d1 hi u) d.size ?_ (by omega) ?_
    · refine ⟨i, ?_⟩
      simp (maxSteps := 1000000) (disch := omega) only [push_cast, ↓wc_seq, ↓wc_block, ↓wc_scope, ↓wc_condL, ↓wc_region, ↓wr_cons, ↓wr_consgL, ↓wr_nil, ↓wo_pickL, ↓wo_callf, ↓wc_exit, ↓wc_ret, ↓wc_skip, ↓wc_wl, wo_some, wo_none, wo_ite, opQ_eq, seqQ_normal, seqQ_exit, seqQ_ret, blockQ_normal, blockQ_exit, blockQ_ret, iterQ_normal, iterQ_exit, iterQ_ret, retQ_normal, retQ_ret, retQ_exit, pickC_true, pickC_false, pickO_true, pickO_false, gstep_tt, gstep_ff, gstep_tf, gstep_ft, gstep_skip, int_bne, int_beq, decide_not, Nat.reduceAdd, Nat.reduceMul, Nat.reduceSub, Nat.reducePow, Nat.reduceLT, Nat.reduceLeDiff, Nat.reduceEqDiff, Int.reduceToNat, Int.reduceAdd, Int.reduceSub, Int.reduceNeg, Int.reduceMul, Int.reduceLT, Int.reduceLE, Int.reduceEq, le_max, ↓wo_build, ↓wo_buildSlice, evParts, ↓reduceIte, planIds, hasExt, cntFs, idxFs, clnFs, ovlFs, List.contains_cons, List.contains_nil, List.any_cons, List.any_nil, Nat.reduceBEq, setC, List.length_set, decide_eq_true_eq, decide_eq_false_iff_not, true_implies, false_implies, forall_const, reduceCtorEq, eq_self, Int.natCast_nonneg, Int.toNat_natCast, Int.ofNat_lt, D.int.injEq, Option.some.injEq, Nat.zero_add, Nat.add_zero, bne_iff_ne, bne_eq_false_iff_eq, beq_iff_eq, beq_eq_false_iff_ne, gt_iff_lt, ne_eq, not_true_eq_false, not_false_eq_true, planIds, hasExt, cntFs, idxFs, clnFs, ovlFs, List.contains_cons, List.contains_nil, List.any_cons, List.any_nil, Nat.reduceBEq, Nat.reduceMul, Nat.reduceAdd, ↓reduceIte, hal, h0, h1, h2, h3, h9, h10]
      exact he
    clear hal h0 h1 h2 h3 h9 h10 a
    rintro s a T' hi' ⟨u, hal, h0, h1, h2, h3, h9, h10, rfl, hu, hqu⟩
    rw [Sort.scanSorted] at hqu
    by_cases g : u < hi
    case neg =>
      rw [if_neg (by simp [g])] at hqu
      simp (maxSteps := 1000000) (disch := omega) only [push_cast, ↓wc_seq, ↓wc_block, ↓wc_scope, ↓wc_condL, ↓wc_region, ↓wr_cons, ↓wr_consgL, ↓wr_nil, ↓wo_pickL, ↓wo_callf, ↓wc_exit, ↓wc_ret, ↓wc_skip, ↓wc_wl, wo_some, wo_none, wo_ite, opQ_eq, seqQ_normal, seqQ_exit, seqQ_ret, blockQ_normal, blockQ_exit, blockQ_ret, iterQ_normal, iterQ_exit, iterQ_ret, retQ_normal, retQ_ret, retQ_exit, pickC_true, pickC_false, pickO_true, pickO_false, gstep_tt, gstep_ff, gstep_tf, gstep_ft, gstep_skip, int_bne, int_beq, decide_not, Nat.reduceAdd, Nat.reduceMul, Nat.reduceSub, Nat.reducePow, Nat.reduceLT, Nat.reduceLeDiff, Nat.reduceEqDiff, Int.reduceToNat, Int.reduceAdd, Int.reduceSub, Int.reduceNeg, Int.reduceMul, Int.reduceLT, Int.reduceLE, Int.reduceEq, le_max, ↓wo_build, ↓wo_buildSlice, evParts, ↓reduceIte, planIds, hasExt, cntFs, idxFs, clnFs, ovlFs, List.contains_cons, List.contains_nil, List.any_cons, List.any_nil, Nat.reduceBEq, setC, List.length_set, decide_eq_true_eq, decide_eq_false_iff_not, true_implies, false_implies, forall_const, reduceCtorEq, eq_self, Int.natCast_nonneg, Int.toNat_natCast, Int.ofNat_lt, D.int.injEq, Option.some.injEq, Nat.zero_add, Nat.add_zero, bne_iff_ne, bne_eq_false_iff_eq, beq_iff_eq, beq_eq_false_iff_ne, gt_iff_lt, ne_eq, not_true_eq_false, not_false_eq_true, planIds, hasExt, cntFs, idxFs, clnFs, ovlFs, List.contains_cons, List.contains_nil, List.any_cons, List.any_nil, Nat.reduceBEq, Nat.reduceMul, Nat.reduceAdd, ↓reduceIte, hal, h0, h1, h2, h3, h9, h10, g, hqu]
    obtain ⟨u', hu'⟩ : ∃ u', u = u' + 1 := ⟨u - 1, by omega⟩
    have w0 : IntKind.i64.wrap ((u : Int) - 1) = (u' : Int) := by rw [wrap_ok (by omega) (by omega)]; omega
    have hu1 : u - 1 = u' := by omega
    rw [hu1] at hqu
    have b1 : u < d.size := by omega
    have b2 : u' < d.size := by omega
    have l1 := row_at (val := val) (d := d1) (i := u) (by omega)
    have l2 := row_at (val := val) (d := d1) (i := u') (by omega)
    have cc := fun st => hC n (by omega) d1 T' hr st d1[u]! d1[u']!
    by_cases e1 : c d1[u]! d1[u']! < 0
    · rw [if_neg (by simp [lt, e1])] at hqu
      simp (maxSteps := 1000000) (disch := omega) only [push_cast, ↓wc_seq, ↓wc_block, ↓wc_scope, ↓wc_condL, ↓wc_region, ↓wr_cons, ↓wr_consgL, ↓wr_nil, ↓wo_pickL, ↓wo_callf, ↓wc_exit, ↓wc_ret, ↓wc_skip, ↓wc_wl, wo_some, wo_none, wo_ite, opQ_eq, seqQ_normal, seqQ_exit, seqQ_ret, blockQ_normal, blockQ_exit, blockQ_ret, iterQ_normal, iterQ_exit, iterQ_ret, retQ_normal, retQ_ret, retQ_exit, pickC_true, pickC_false, pickO_true, pickO_false, gstep_tt, gstep_ff, gstep_tf, gstep_ft, gstep_skip, int_bne, int_beq, decide_not, Nat.reduceAdd, Nat.reduceMul, Nat.reduceSub, Nat.reducePow, Nat.reduceLT, Nat.reduceLeDiff, Nat.reduceEqDiff, Int.reduceToNat, Int.reduceAdd, Int.reduceSub, Int.reduceNeg, Int.reduceMul, Int.reduceLT, Int.reduceLE, Int.reduceEq, le_max, ↓wo_build, ↓wo_buildSlice, evParts, ↓reduceIte, planIds, hasExt, cntFs, idxFs, clnFs, ovlFs, List.contains_cons, List.contains_nil, List.any_cons, List.any_nil, Nat.reduceBEq, setC, List.length_set, decide_eq_true_eq, decide_eq_false_iff_not, true_implies, false_implies, forall_const, reduceCtorEq, eq_self, Int.natCast_nonneg, Int.toNat_natCast, Int.ofNat_lt, D.int.injEq, Option.some.injEq, Nat.zero_add, Nat.add_zero, bne_iff_ne, bne_eq_false_iff_eq, beq_iff_eq, beq_eq_false_iff_ne, gt_iff_lt, ne_eq, not_true_eq_false, not_false_eq_true, planIds, hasExt, cntFs, idxFs, clnFs, ovlFs, List.contains_cons, List.contains_nil, List.any_cons, List.any_nil, Nat.reduceBEq, Nat.reduceMul, Nat.reduceAdd, ↓reduceIte, hal, h0, h1, h2, h3, h9, h10, g, w0, hr.row, sz_el, b1, b2, l1, l2, ↓wo_callv, cc, e1, hqu]
    · rw [if_pos (by simp [lt, g, e1])] at hqu
      simp (maxSteps := 1000000) (disch := omega) only [push_cast, ↓wc_seq, ↓wc_block, ↓wc_scope, ↓wc_condL, ↓wc_region, ↓wr_cons, ↓wr_consgL, ↓wr_nil, ↓wo_pickL, ↓wo_callf, ↓wc_exit, ↓wc_ret, ↓wc_skip, ↓wc_wl, wo_some, wo_none, wo_ite, opQ_eq, seqQ_normal, seqQ_exit, seqQ_ret, blockQ_normal, blockQ_exit, blockQ_ret, iterQ_normal, iterQ_exit, iterQ_ret, retQ_normal, retQ_ret, retQ_exit, pickC_true, pickC_false, pickO_true, pickO_false, gstep_tt, gstep_ff, gstep_tf, gstep_ft, gstep_skip, int_bne, int_beq, decide_not, Nat.reduceAdd, Nat.reduceMul, Nat.reduceSub, Nat.reducePow, Nat.reduceLT, Nat.reduceLeDiff, Nat.reduceEqDiff, Int.reduceToNat, Int.reduceAdd, Int.reduceSub, Int.reduceNeg, Int.reduceMul, Int.reduceLT, Int.reduceLE, Int.reduceEq, le_max, ↓wo_build, ↓wo_buildSlice, evParts, ↓reduceIte, planIds, hasExt, cntFs, idxFs, clnFs, ovlFs, List.contains_cons, List.contains_nil, List.any_cons, List.any_nil, Nat.reduceBEq, setC, List.length_set, decide_eq_true_eq, decide_eq_false_iff_not, true_implies, false_implies, forall_const, reduceCtorEq, eq_self, Int.natCast_nonneg, Int.toNat_natCast, Int.ofNat_lt, D.int.injEq, Option.some.injEq, Nat.zero_add, Nat.add_zero, bne_iff_ne, bne_eq_false_iff_eq, beq_iff_eq, beq_eq_false_iff_ne, gt_iff_lt, ne_eq, not_true_eq_false, not_false_eq_true, planIds, hasExt, cntFs, idxFs, clnFs, ovlFs, List.contains_cons, List.contains_nil, List.any_cons, List.any_nil, Nat.reduceBEq, Nat.reduceMul, Nat.reduceAdd, ↓reduceIte, hal, h0, h1, h2, h3, h9, h10, g, w0, hr.row, sz_el, b1, b2, l1, l2, ↓wo_callv, cc, e1, wrap_ok]
      exact ⟨by omega, u + 1, by simp only [Int.natCast_add, Int.natCast_one], by omega, hqu⟩
  clear hal h0 h1 h2 h3 h9 h10 a
  rintro a T2 ⟨rfl, hal, h0, h1, h2, h3, h9, h10⟩
  by_cases g1 : e = hi
  · rw [if_pos g1] at hq
    have g1' : ((e : Int) = (hi : Int)) := by rw [g1]
    simp (maxSteps := 1000000) (disch := omega) only [push_cast, ↓wc_seq, ↓wc_block, ↓wc_scope, ↓wc_condL, ↓wc_region, ↓wr_cons, ↓wr_consgL, ↓wr_nil, ↓wo_pickL, ↓wo_callf, ↓wc_exit, ↓wc_ret, ↓wc_skip, ↓wc_wl, wo_some, wo_none, wo_ite, opQ_eq, seqQ_normal, seqQ_exit, seqQ_ret, blockQ_normal, blockQ_exit, blockQ_ret, iterQ_normal, iterQ_exit, iterQ_ret, retQ_normal, retQ_ret, retQ_exit, pickC_true, pickC_false, pickO_true, pickO_false, gstep_tt, gstep_ff, gstep_tf, gstep_ft, gstep_skip, int_bne, int_beq, decide_not, Nat.reduceAdd, Nat.reduceMul, Nat.reduceSub, Nat.reducePow, Nat.reduceLT, Nat.reduceLeDiff, Nat.reduceEqDiff, Int.reduceToNat, Int.reduceAdd, Int.reduceSub, Int.reduceNeg, Int.reduceMul, Int.reduceLT, Int.reduceLE, Int.reduceEq, le_max, ↓wo_build, ↓wo_buildSlice, evParts, ↓reduceIte, planIds, hasExt, cntFs, idxFs, clnFs, ovlFs, List.contains_cons, List.contains_nil, List.any_cons, List.any_nil, Nat.reduceBEq, setC, List.length_set, decide_eq_true_eq, decide_eq_false_iff_not, true_implies, false_implies, forall_const, reduceCtorEq, eq_self, Int.natCast_nonneg, Int.toNat_natCast, Int.ofNat_lt, D.int.injEq, Option.some.injEq, Nat.zero_add, Nat.add_zero, bne_iff_ne, bne_eq_false_iff_eq, beq_iff_eq, beq_eq_false_iff_ne, gt_iff_lt, ne_eq, not_true_eq_false, not_false_eq_true, planIds, hasExt, cntFs, idxFs, clnFs, ovlFs, List.contains_cons, List.contains_nil, List.any_cons, List.any_nil, Nat.reduceBEq, Nat.reduceMul, Nat.reduceAdd, ↓reduceIte, hal, h0, h1, h2, h3, h9, h10, g1', Tryd.f83]
    rw [hq]; exact ⟨rfl, hr, hs1⟩
  rw [if_neg g1] at hq
  have g1' : ¬ ((e : Int) = (hi : Int)) := by omega
  obtain ⟨ln, hln⟩ : ∃ ln, ln = hi - lo := ⟨_, rfl⟩
  have w1 : IntKind.i64.wrap ((hi : Int) - (lo : Int)) = (ln : Int) := by rw [wrap_ok (by omega) (by omega)]; omega
  by_cases g2 : hi - lo < 50
  · rw [if_pos g2] at hq
    have g2' : ((ln : Int) < 50) := by omega
    simp (maxSteps := 1000000) (disch := omega) only [push_cast, ↓wc_seq, ↓wc_block, ↓wc_scope, ↓wc_condL, ↓wc_region, ↓wr_cons, ↓wr_consgL, ↓wr_nil, ↓wo_pickL, ↓wo_callf, ↓wc_exit, ↓wc_ret, ↓wc_skip, ↓wc_wl, wo_some, wo_none, wo_ite, opQ_eq, seqQ_normal, seqQ_exit, seqQ_ret, blockQ_normal, blockQ_exit, blockQ_ret, iterQ_normal, iterQ_exit, iterQ_ret, retQ_normal, retQ_ret, retQ_exit, pickC_true, pickC_false, pickO_true, pickO_false, gstep_tt, gstep_ff, gstep_tf, gstep_ft, gstep_skip, int_bne, int_beq, decide_not, Nat.reduceAdd, Nat.reduceMul, Nat.reduceSub, Nat.reducePow, Nat.reduceLT, Nat.reduceLeDiff, Nat.reduceEqDiff, Int.reduceToNat, Int.reduceAdd, Int.reduceSub, Int.reduceNeg, Int.reduceMul, Int.reduceLT, Int.reduceLE, Int.reduceEq, le_max, ↓wo_build, ↓wo_buildSlice, evParts, ↓reduceIte, planIds, hasExt, cntFs, idxFs, clnFs, ovlFs, List.contains_cons, List.contains_nil, List.any_cons, List.any_nil, Nat.reduceBEq, setC, List.length_set, decide_eq_true_eq, decide_eq_false_iff_not, true_implies, false_implies, forall_const, reduceCtorEq, eq_self, Int.natCast_nonneg, Int.toNat_natCast, Int.ofNat_lt, D.int.injEq, Option.some.injEq, Nat.zero_add, Nat.add_zero, bne_iff_ne, bne_eq_false_iff_eq, beq_iff_eq, beq_eq_false_iff_ne, gt_iff_lt, ne_eq, not_true_eq_false, not_false_eq_true, planIds, hasExt, cntFs, idxFs, clnFs, ovlFs, List.contains_cons, List.contains_nil, List.any_cons, List.any_nil, Nat.reduceBEq, Nat.reduceMul, Nat.reduceAdd, ↓reduceIte, hal, h0, h1, h2, h3, h9, h10, g1', w1, g2', Tryd.f83]
    rw [hq]; exact ⟨rfl, hr, hs1⟩
  rw [if_neg g2] at hq
  have g2' : ¬ ((ln : Int) < 50) := by omega
  obtain ⟨e', hee⟩ : ∃ e', e = e' + 1 := ⟨e - 1, by omega⟩
  have hee' : e - 1 = e' := by omega
  rw [hee'] at hq
  have w2 : IntKind.i64.wrap ((e : Int) - 1) = (e' : Int) := by rw [wrap_ok (by omega) (by omega)]; omega
  rw [wc_asc, wc_asc]
  obtain ⟨d2, hd2⟩ : ∃ d2, d2 = Sort.swp d1 e e' := ⟨_, rfl⟩
  rw [← hd2] at hq
  have hs2 : d2.size = d.size := by rw [hd2, swp_size]; exact hs1
  refine wc_scut (fun a T' => a.length = 141 ∧ a[0]? = some (.os k 0 d.size x) ∧ a[1]? = some (.int .i64 lo) ∧ a[2]? = some (.int .i64 hi) ∧ a[3]? = some (cf) ∧ a[9]? = some (.int .i64 e) ∧ a[10]? = some (.int .i64 r) ∧ R S0 k val d2 T') ?_ ?_
  · have b1 : e < d.size := by omega
    have b2 : e' < d.size := by omega
    have l1 := row_at (val := val) (d := d1) (i := e) (by omega)
    have l2 := row_at (val := val) (d := d1) (i := e') (by omega)
    have l3 := row_at (val := val) (d := d1.setIfInBounds e d1[e']!) (i := e') (by simp; omega)
    have hkl := hr.lt
    simp (maxSteps := 1000000) (disch := omega) only [push_cast, ↓wc_seq, ↓wc_block, ↓wc_scope, ↓wc_condL, ↓wc_region, ↓wr_cons, ↓wr_consgL, ↓wr_nil, ↓wo_pickL, ↓wo_callf, ↓wc_exit, ↓wc_ret, ↓wc_skip, ↓wc_wl, wo_some, wo_none, wo_ite, opQ_eq, seqQ_normal, seqQ_exit, seqQ_ret, blockQ_normal, blockQ_exit, blockQ_ret, iterQ_normal, iterQ_exit, iterQ_ret, retQ_normal, retQ_ret, retQ_exit, pickC_true, pickC_false, pickO_true, pickO_false, gstep_tt, gstep_ff, gstep_tf, gstep_ft, gstep_skip, int_bne, int_beq, decide_not, Nat.reduceAdd, Nat.reduceMul, Nat.reduceSub, Nat.reducePow, Nat.reduceLT, Nat.reduceLeDiff, Nat.reduceEqDiff, Int.reduceToNat, Int.reduceAdd, Int.reduceSub, Int.reduceNeg, Int.reduceMul, Int.reduceLT, Int.reduceLE, Int.reduceEq, le_max, ↓wo_build, ↓wo_buildSlice, evParts, ↓reduceIte, planIds, hasExt, cntFs, idxFs, clnFs, ovlFs, List.contains_cons, List.contains_nil, List.any_cons, List.any_nil, Nat.reduceBEq, setC, List.length_set, decide_eq_true_eq, decide_eq_false_iff_not, true_implies, false_implies, forall_const, reduceCtorEq, eq_self, Int.natCast_nonneg, Int.toNat_natCast, Int.ofNat_lt, D.int.injEq, Option.some.injEq, Nat.zero_add, Nat.add_zero, bne_iff_ne, bne_eq_false_iff_eq, beq_iff_eq, beq_eq_false_iff_ne, gt_iff_lt, ne_eq, not_true_eq_false, not_false_eq_true, planIds, hasExt, cntFs, idxFs, clnFs, ovlFs, List.contains_cons, List.contains_nil, List.any_cons, List.any_nil, Nat.reduceBEq, Nat.reduceMul, Nat.reduceAdd, ↓reduceIte, hal, h0, h1, h2, h3, h9, h10, g1', w1, g2', w2, hr.row, sz_el, b1, b2, l1, l2, l3, hkl, cv, ov, row_set, List.set_set]
    rw [hd2]; exact hr.put
  clear hal h0 h1 h2 h3 h9 h10 a
  clear hr
  rintro a T1 ⟨hal, h0, h1, h2, h3, h9, h10, hr⟩
  obtain ⟨d3, hd3⟩ : ∃ d3, d3 = Sort.fixDown (lt c) lo e d2 := ⟨_, rfl⟩
  rw [← hd3] at hq
  have hs3 : d3.size = d.size := by
    rw [hd3, Sort.fixDown]
    split
    · rw [shiftDown_size]; exact hs2
    · exact hs2
  obtain ⟨el, hel⟩ : ∃ el, el = e - lo := ⟨_, rfl⟩
  have w3 : IntKind.i64.wrap ((e : Int) - (lo : Int)) = (el : Int) := by rw [wrap_ok (by omega) (by omega)]; omega
  refine wc_scut (fun a T' => a.length = 141 ∧ a[0]? = some (.os k 0 d.size x) ∧ a[1]? = some (.int .i64 lo) ∧ a[2]? = some (.int .i64 hi) ∧ a[3]? = some (cf) ∧ a[9]? = some (.int .i64 e) ∧ a[10]? = some (.int .i64 r) ∧ R S0 k val d3 T') ?_ ?_
  · by_cases g3 : el ≥ 2
    case neg =>
      have g3' : ¬ ((2 : Int) ≤ (el : Int)) := by omega
      rw [Sort.fixDown, if_neg (by omega)] at hd3
      simp (maxSteps := 1000000) (disch := omega) only [push_cast, ↓wc_seq, ↓wc_block, ↓wc_scope, ↓wc_condL, ↓wc_region, ↓wr_cons, ↓wr_consgL, ↓wr_nil, ↓wo_pickL, ↓wo_callf, ↓wc_exit, ↓wc_ret, ↓wc_skip, ↓wc_wl, wo_some, wo_none, wo_ite, opQ_eq, seqQ_normal, seqQ_exit, seqQ_ret, blockQ_normal, blockQ_exit, blockQ_ret, iterQ_normal, iterQ_exit, iterQ_ret, retQ_normal, retQ_ret, retQ_exit, pickC_true, pickC_false, pickO_true, pickO_false, gstep_tt, gstep_ff, gstep_tf, gstep_ft, gstep_skip, int_bne, int_beq, decide_not, Nat.reduceAdd, Nat.reduceMul, Nat.reduceSub, Nat.reducePow, Nat.reduceLT, Nat.reduceLeDiff, Nat.reduceEqDiff, Int.reduceToNat, Int.reduceAdd, Int.reduceSub, Int.reduceNeg, Int.reduceMul, Int.reduceLT, Int.reduceLE, Int.reduceEq, le_max, ↓wo_build, ↓wo_buildSlice, evParts, ↓reduceIte, planIds, hasExt, cntFs, idxFs, clnFs, ovlFs, List.contains_cons, List.contains_nil, List.any_cons, List.any_nil, Nat.reduceBEq, setC, List.length_set, decide_eq_true_eq, decide_eq_false_iff_not, true_implies, false_implies, forall_const, reduceCtorEq, eq_self, Int.natCast_nonneg, Int.toNat_natCast, Int.ofNat_lt, D.int.injEq, Option.some.injEq, Nat.zero_add, Nat.add_zero, bne_iff_ne, bne_eq_false_iff_eq, beq_iff_eq, beq_eq_false_iff_ne, gt_iff_lt, ne_eq, not_true_eq_false, not_false_eq_true, planIds, hasExt, cntFs, idxFs, clnFs, ovlFs, List.contains_cons, List.contains_nil, List.any_cons, List.any_nil, Nat.reduceBEq, Nat.reduceMul, Nat.reduceAdd, ↓reduceIte, hal, h0, h1, h2, h3, h9, h10, w3, g3', ge_iff_le]
      rw [hd3]; exact hr
    have g3' : ((2 : Int) ≤ (el : Int)) := by omega
    rw [Sort.fixDown, if_pos (by omega), hee'] at hd3
    simp (maxSteps := 1000000) (disch := omega) only [push_cast, ↓wc_seq, ↓wc_block, ↓wc_scope, ↓wc_condL, ↓wc_region, ↓wr_cons, ↓wr_consgL, ↓wr_nil, ↓wo_pickL, ↓wo_callf, ↓wc_exit, ↓wc_ret, ↓wc_skip, ↓wc_wl, wo_some, wo_none, wo_ite, opQ_eq, seqQ_normal, seqQ_exit, seqQ_ret, blockQ_normal, blockQ_exit, blockQ_ret, iterQ_normal, iterQ_exit, iterQ_ret, retQ_normal, retQ_ret, retQ_exit, pickC_true, pickC_false, pickO_true, pickO_false, gstep_tt, gstep_ff, gstep_tf, gstep_ft, gstep_skip, int_bne, int_beq, decide_not, Nat.reduceAdd, Nat.reduceMul, Nat.reduceSub, Nat.reducePow, Nat.reduceLT, Nat.reduceLeDiff, Nat.reduceEqDiff, Int.reduceToNat, Int.reduceAdd, Int.reduceSub, Int.reduceNeg, Int.reduceMul, Int.reduceLT, Int.reduceLE, Int.reduceEq, le_max, ↓wo_build, ↓wo_buildSlice, evParts, ↓reduceIte, planIds, hasExt, cntFs, idxFs, clnFs, ovlFs, List.contains_cons, List.contains_nil, List.any_cons, List.any_nil, Nat.reduceBEq, setC, List.length_set, decide_eq_true_eq, decide_eq_false_iff_not, true_implies, false_implies, forall_const, reduceCtorEq, eq_self, Int.natCast_nonneg, Int.toNat_natCast, Int.ofNat_lt, D.int.injEq, Option.some.injEq, Nat.zero_add, Nat.add_zero, bne_iff_ne, bne_eq_false_iff_eq, beq_iff_eq, beq_eq_false_iff_ne, gt_iff_lt, ne_eq, not_true_eq_false, not_false_eq_true, planIds, hasExt, cntFs, idxFs, clnFs, ovlFs, List.contains_cons, List.contains_nil, List.any_cons, List.any_nil, Nat.reduceBEq, Nat.reduceMul, Nat.reduceAdd, ↓reduceIte, hal, h0, h1, h2, h3, h9, h10, w3, g3', ge_iff_le, w2]
    refine wl_loop (fun s a T' => ∃ (d4 : Array α) (j : Nat), a.length = 141 ∧ a[0]? = some (.os k 0 d.size x) ∧ a[1]? = some (.int .i64 lo) ∧ a[2]? = some (.int .i64 hi) ∧ a[3]? = some (cf) ∧ a[9]? = some (.int .i64 e) ∧ a[10]? = some (.int .i64 r) ∧ a[11]? = some (.int .i64 j) ∧ j + s = e' ∧ d4.size = d.size ∧ R S0 k val d4 T' ∧ d3 = Sort.shiftDown (lt c) j d4) e' ?_ (by omega) ?_
    · refine ⟨d2, e', ?_⟩
      simp (maxSteps := 1000000) (disch := omega) only [push_cast, ↓wc_seq, ↓wc_block, ↓wc_scope, ↓wc_condL, ↓wc_region, ↓wr_cons, ↓wr_consgL, ↓wr_nil, ↓wo_pickL, ↓wo_callf, ↓wc_exit, ↓wc_ret, ↓wc_skip, ↓wc_wl, wo_some, wo_none, wo_ite, opQ_eq, seqQ_normal, seqQ_exit, seqQ_ret, blockQ_normal, blockQ_exit, blockQ_ret, iterQ_normal, iterQ_exit, iterQ_ret, retQ_normal, retQ_ret, retQ_exit, pickC_true, pickC_false, pickO_true, pickO_false, gstep_tt, gstep_ff, gstep_tf, gstep_ft, gstep_skip, int_bne, int_beq, decide_not, Nat.reduceAdd, Nat.reduceMul, Nat.reduceSub, Nat.reducePow, Nat.reduceLT, Nat.reduceLeDiff, Nat.reduceEqDiff, Int.reduceToNat, Int.reduceAdd, Int.reduceSub, Int.reduceNeg, Int.reduceMul, Int.reduceLT, Int.reduceLE, Int.reduceEq, le_max, ↓wo_build, ↓wo_buildSlice, evParts, ↓reduceIte, planIds, hasExt, cntFs, idxFs, clnFs, ovlFs, List.contains_cons, List.contains_nil, List.any_cons, List.any_nil, Nat.reduceBEq, setC, List.length_set, decide_eq_true_eq, decide_eq_false_iff_not, true_implies, false_implies, forall_const, reduceCtorEq, eq_self, Int.natCast_nonneg, Int.toNat_natCast, Int.ofNat_lt, D.int.injEq, Option.some.injEq, Nat.zero_add, Nat.add_zero, bne_iff_ne, bne_eq_false_iff_eq, beq_iff_eq, beq_eq_false_iff_ne, gt_iff_lt, ne_eq, not_true_eq_false, not_false_eq_true, planIds, hasExt, cntFs, idxFs, clnFs, ovlFs, List.contains_cons, List.contains_nil, List.any_cons, List.any_nil, Nat.reduceBEq, Nat.reduceMul, Nat.reduceAdd, ↓reduceIte, hal, h0, h1, h2, h3, h9, h10, w2]
      exact ⟨hs2, hr, hd3⟩
    clear hal h0 h1 h2 h3 h9 h10 a
    clear hr
    rintro s a T' hs' ⟨d4, j, hal, h0, h1, h2, h3, h9, h10, h11, hj, hs4, hr, hqj⟩
    cases j with
    | zero =>
      have g : ¬ ((1 : Int) ≤ ((0 : Nat) : Int)) := by omega
      rw [Sort.shiftDown] at hqj
      simp (maxSteps := 1000000) (disch := omega) only [push_cast, ↓wc_seq, ↓wc_block, ↓wc_scope, ↓wc_condL, ↓wc_region, ↓wr_cons, ↓wr_consgL, ↓wr_nil, ↓wo_pickL, ↓wo_callf, ↓wc_exit, ↓wc_ret, ↓wc_skip, ↓wc_wl, wo_some, wo_none, wo_ite, opQ_eq, seqQ_normal, seqQ_exit, seqQ_ret, blockQ_normal, blockQ_exit, blockQ_ret, iterQ_normal, iterQ_exit, iterQ_ret, retQ_normal, retQ_ret, retQ_exit, pickC_true, pickC_false, pickO_true, pickO_false, gstep_tt, gstep_ff, gstep_tf, gstep_ft, gstep_skip, int_bne, int_beq, decide_not, Nat.reduceAdd, Nat.reduceMul, Nat.reduceSub, Nat.reducePow, Nat.reduceLT, Nat.reduceLeDiff, Nat.reduceEqDiff, Int.reduceToNat, Int.reduceAdd, Int.reduceSub, Int.reduceNeg, Int.reduceMul, Int.reduceLT, Int.reduceLE, Int.reduceEq, le_max, ↓wo_build, ↓wo_buildSlice, evParts, ↓reduceIte, planIds, hasExt, cntFs, idxFs, clnFs, ovlFs, List.contains_cons, List.contains_nil, List.any_cons, List.any_nil, Nat.reduceBEq, setC, List.length_set, decide_eq_true_eq, decide_eq_false_iff_not, true_implies, false_implies, forall_const, reduceCtorEq, eq_self, Int.natCast_nonneg, Int.toNat_natCast, Int.ofNat_lt, D.int.injEq, Option.some.injEq, Nat.zero_add, Nat.add_zero, bne_iff_ne, bne_eq_false_iff_eq, beq_iff_eq, beq_eq_false_iff_ne, gt_iff_lt, ne_eq, not_true_eq_false, not_false_eq_true, planIds, hasExt, cntFs, idxFs, clnFs, ovlFs, List.contains_cons, List.contains_nil, List.any_cons, List.any_nil, Nat.reduceBEq, Nat.reduceMul, Nat.reduceAdd, ↓reduceIte, hal, h0, h1, h2, h3, h9, h10, h11, g, ge_iff_le]
      rw [hqj]; exact hr
    | succ j' =>
    rw [Sort.shiftDown] at hqj
    obtain ⟨j, hj1⟩ : ∃ j, j = j' + 1 := ⟨_, rfl⟩
    rw [← hj1] at h11 hqj hj
    have g : ((1 : Int) ≤ (j : Int)) := by omega
    have w0 : IntKind.i64.wrap ((j : Int) - 1) = (j' : Int) := by rw [wrap_ok (by omega) (by omega)]; omega
    have b1 : j < d.size := by omega
    have b2 : j' < d.size := by omega
    have l1 := row_at (val := val) (d := d4) (i := j) (by omega)
    have l2 := row_at (val := val) (d := d4) (i := j') (by omega)
    have cc := fun st => hC n (by omega) d4 T' hr st d4[j]! d4[j']!
    by_cases e1 : c d4[j]! d4[j']! < 0
    · rw [if_neg (by simp [lt, e1])] at hqj
      have l3 := row_at (val := val) (d := d4.setIfInBounds j d4[j']!) (i := j') (by simp; omega)
      have hkl := hr.lt
      simp (maxSteps := 1000000) (disch := omega) only [push_cast, ↓wc_seq, ↓wc_block, ↓wc_scope, ↓wc_condL, ↓wc_region, ↓wr_cons, ↓wr_consgL, ↓wr_nil, ↓wo_pickL, ↓wo_callf, ↓wc_exit, ↓wc_ret, ↓wc_skip, ↓wc_wl, wo_some, wo_none, wo_ite, opQ_eq, seqQ_normal, seqQ_exit, seqQ_ret, blockQ_normal, blockQ_exit, blockQ_ret, iterQ_normal, iterQ_exit, iterQ_ret, retQ_normal, retQ_ret, retQ_exit, pickC_true, pickC_false, pickO_true, pickO_false, gstep_tt, gstep_ff, gstep_tf, gstep_ft, gstep_skip, int_bne, int_beq, decide_not, Nat.reduceAdd, Nat.reduceMul, Nat.reduceSub, Nat.reducePow, Nat.reduceLT, Nat.reduceLeDiff, Nat.reduceEqDiff, Int.reduceToNat, Int.reduceAdd, Int.reduceSub, Int.reduceNeg, Int.reduceMul, Int.reduceLT, Int.reduceLE, Int.reduceEq, le_max, ↓wo_build, ↓wo_buildSlice, evParts, ↓reduceIte, planIds, hasExt, cntFs, idxFs, clnFs, ovlFs, List.contains_cons, List.contains_nil, List.any_cons, List.any_nil, Nat.reduceBEq, setC, List.length_set, decide_eq_true_eq, decide_eq_false_iff_not, true_implies, false_implies, forall_const, reduceCtorEq, eq_self, Int.natCast_nonneg, Int.toNat_natCast, Int.ofNat_lt, D.int.injEq, Option.some.injEq, Nat.zero_add, Nat.add_zero, bne_iff_ne, bne_eq_false_iff_eq, beq_iff_eq, beq_eq_false_iff_ne, gt_iff_lt, ne_eq, not_true_eq_false, not_false_eq_true, planIds, hasExt, cntFs, idxFs, clnFs, ovlFs, List.contains_cons, List.contains_nil, List.any_cons, List.any_nil, Nat.reduceBEq, Nat.reduceMul, Nat.reduceAdd, ↓reduceIte, hal, h0, h1, h2, h3, h9, h10, h11, g, ge_iff_le, w0, hr.row, sz_el, b1, b2, l1, l2, ↓wo_callv, cc, e1, l3, hkl, cv, ov, row_set, List.set_set]
      exact ⟨by omega, Sort.swp d4 j j', j', rfl, by omega, by rw [swp_size]; exact hs4, hr.put, hqj⟩
    · rw [if_pos (by simp [lt, e1])] at hqj
      simp (maxSteps := 1000000) (disch := omega) only [push_cast, ↓wc_seq, ↓wc_block, ↓wc_scope, ↓wc_condL, ↓wc_region, ↓wr_cons, ↓wr_consgL, ↓wr_nil, ↓wo_pickL, ↓wo_callf, ↓wc_exit, ↓wc_ret, ↓wc_skip, ↓wc_wl, wo_some, wo_none, wo_ite, opQ_eq, seqQ_normal, seqQ_exit, seqQ_ret, blockQ_normal, blockQ_exit, blockQ_ret, iterQ_normal, iterQ_exit, iterQ_ret, retQ_normal, retQ_ret, retQ_exit, pickC_true, pickC_false, pickO_true, pickO_false, gstep_tt, gstep_ff, gstep_tf, gstep_ft, gstep_skip, int_bne, int_beq, decide_not, Nat.reduceAdd, Nat.reduceMul, Nat.reduceSub, Nat.reducePow, Nat.reduceLT, Nat.reduceLeDiff, Nat.reduceEqDiff, Int.reduceToNat, Int.reduceAdd, Int.reduceSub, Int.reduceNeg, Int.reduceMul, Int.reduceLT, Int.reduceLE, Int.reduceEq, le_max, ↓wo_build, ↓wo_buildSlice, evParts, ↓reduceIte, planIds, hasExt, cntFs, idxFs, clnFs, ovlFs, List.contains_cons, List.contains_nil, List.any_cons, List.any_nil, Nat.reduceBEq, setC, List.length_set, decide_eq_true_eq, decide_eq_false_iff_not, true_implies, false_implies, forall_const, reduceCtorEq, eq_self, Int.natCast_nonneg, Int.toNat_natCast, Int.ofNat_lt, D.int.injEq, Option.some.injEq, Nat.zero_add, Nat.add_zero, bne_iff_ne, bne_eq_false_iff_eq, beq_iff_eq, beq_eq_false_iff_ne, gt_iff_lt, ne_eq, not_true_eq_false, not_false_eq_true, planIds, hasExt, cntFs, idxFs, clnFs, ovlFs, List.contains_cons, List.contains_nil, List.any_cons, List.any_nil, Nat.reduceBEq, Nat.reduceMul, Nat.reduceAdd, ↓reduceIte, hal, h0, h1, h2, h3, h9, h10, h11, g, ge_iff_le, w0, hr.row, sz_el, b1, b2, l1, l2, ↓wo_callv, cc, e1]
      rw [hqj]; exact hr
  clear hal h0 h1 h2 h3 h9 h10 a
  clear hr
  rintro a T1 ⟨hal, h0, h1, h2, h3, h9, h10, hr⟩
  obtain ⟨d5, hd5⟩ : ∃ d5, d5 = Sort.fixUp (lt c) hi e d3 := ⟨_, rfl⟩
  rw [← hd5] at hq
  have hs5 : d5.size = d.size := by
    rw [hd5, Sort.fixUp]
    split
    · rw [shiftUp_size rfl]; exact hs3
    · exact hs3
  obtain ⟨er, her⟩ : ∃ er, er = hi - e := ⟨_, rfl⟩
  have w4 : IntKind.i64.wrap ((hi : Int) - (e : Int)) = (er : Int) := by rw [wrap_ok (by omega) (by omega)]; omega
  refine wc_mono (Q := fun q a T' => q = .normal ∧ a.length = 141 ∧ a[0]? = some (.os k 0 d.size x) ∧ a[1]? = some (.int .i64 lo) ∧ a[2]? = some (.int .i64 hi) ∧ a[3]? = some (cf) ∧ a[9]? = some (.int .i64 e) ∧ a[10]? = some (.int .i64 r) ∧ R S0 k val d5 T') ?_ ?_
  case refine_2 =>
    clear hal h0 h1 h2 h3 h9 h10 hr a
    rintro q a T' ⟨rfl, hal, h0, h1, h2, h3, h9, h10, hr⟩
    simp (maxSteps := 1000000) (disch := omega) only [push_cast, ↓wc_seq, ↓wc_block, ↓wc_scope, ↓wc_condL, ↓wc_region, ↓wr_cons, ↓wr_consgL, ↓wr_nil, ↓wo_pickL, ↓wo_callf, ↓wc_exit, ↓wc_ret, ↓wc_skip, ↓wc_wl, wo_some, wo_none, wo_ite, opQ_eq, seqQ_normal, seqQ_exit, seqQ_ret, blockQ_normal, blockQ_exit, blockQ_ret, iterQ_normal, iterQ_exit, iterQ_ret, retQ_normal, retQ_ret, retQ_exit, pickC_true, pickC_false, pickO_true, pickO_false, gstep_tt, gstep_ff, gstep_tf, gstep_ft, gstep_skip, int_bne, int_beq, decide_not, Nat.reduceAdd, Nat.reduceMul, Nat.reduceSub, Nat.reducePow, Nat.reduceLT, Nat.reduceLeDiff, Nat.reduceEqDiff, Int.reduceToNat, Int.reduceAdd, Int.reduceSub, Int.reduceNeg, Int.reduceMul, Int.reduceLT, Int.reduceLE, Int.reduceEq, le_max, ↓wo_build, ↓wo_buildSlice, evParts, ↓reduceIte, planIds, hasExt, cntFs, idxFs, clnFs, ovlFs, List.contains_cons, List.contains_nil, List.any_cons, List.any_nil, Nat.reduceBEq, setC, List.length_set, decide_eq_true_eq, decide_eq_false_iff_not, true_implies, false_implies, forall_const, reduceCtorEq, eq_self, Int.natCast_nonneg, Int.toNat_natCast, Int.ofNat_lt, D.int.injEq, Option.some.injEq, Nat.zero_add, Nat.add_zero, bne_iff_ne, bne_eq_false_iff_eq, beq_iff_eq, beq_eq_false_iff_ne, gt_iff_lt, ne_eq, not_true_eq_false, not_false_eq_true, planIds, hasExt, cntFs, idxFs, clnFs, ovlFs, List.contains_cons, List.contains_nil, List.any_cons, List.any_nil, Nat.reduceBEq, Nat.reduceMul, Nat.reduceAdd, ↓reduceIte, hal, h0, h1, h2, h3, h9, h10, wrap_ok, Int.natCast_add, Int.natCast_one]
    exact ⟨by omega, d5, e, rfl, ⟨by omega, by omega, by omega⟩, hs5, hr, hq⟩
  by_cases g3 : er ≥ 2
  case neg =>
    have g3' : ¬ ((2 : Int) ≤ (er : Int)) := by omega
    rw [Sort.fixUp, if_neg (by omega)] at hd5
    simp (maxSteps := 1000000) (disch := omega) only [push_cast, ↓wc_seq, ↓wc_block, ↓wc_scope, ↓wc_condL, ↓wc_region, ↓wr_cons, ↓wr_consgL, ↓wr_nil, ↓wo_pickL, ↓wo_callf, ↓wc_exit, ↓wc_ret, ↓wc_skip, ↓wc_wl, wo_some, wo_none, wo_ite, opQ_eq, seqQ_normal, seqQ_exit, seqQ_ret, blockQ_normal, blockQ_exit, blockQ_ret, iterQ_normal, iterQ_exit, iterQ_ret, retQ_normal, retQ_ret, retQ_exit, pickC_true, pickC_false, pickO_true, pickO_false, gstep_tt, gstep_ff, gstep_tf, gstep_ft, gstep_skip, int_bne, int_beq, decide_not, Nat.reduceAdd, Nat.reduceMul, Nat.reduceSub, Nat.reducePow, Nat.reduceLT, Nat.reduceLeDiff, Nat.reduceEqDiff, Int.reduceToNat, Int.reduceAdd, Int.reduceSub, Int.reduceNeg, Int.reduceMul, Int.reduceLT, Int.reduceLE, Int.reduceEq, le_max, ↓wo_build, ↓wo_buildSlice, evParts, ↓reduceIte, planIds, hasExt, cntFs, idxFs, clnFs, ovlFs, List.contains_cons, List.contains_nil, List.any_cons, List.any_nil, Nat.reduceBEq, setC, List.length_set, decide_eq_true_eq, decide_eq_false_iff_not, true_implies, false_implies, forall_const, reduceCtorEq, eq_self, Int.natCast_nonneg, Int.toNat_natCast, Int.ofNat_lt, D.int.injEq, Option.some.injEq, Nat.zero_add, Nat.add_zero, bne_iff_ne, bne_eq_false_iff_eq, beq_iff_eq, beq_eq_false_iff_ne, gt_iff_lt, ne_eq, not_true_eq_false, not_false_eq_true, planIds, hasExt, cntFs, idxFs, clnFs, ovlFs, List.contains_cons, List.contains_nil, List.any_cons, List.any_nil, Nat.reduceBEq, Nat.reduceMul, Nat.reduceAdd, ↓reduceIte, hal, h0, h1, h2, h3, h9, h10, w4, g3', ge_iff_le]
    rw [hd5]; exact hr
  have g3' : ((2 : Int) ≤ (er : Int)) := by omega
  rw [Sort.fixUp, if_pos (by omega)] at hd5
  have w5 : IntKind.i64.wrap ((e : Int) + 1) = ((e + 1 : Nat) : Int) := by rw [wrap_ok (by omega) (by omega)]; omega
  obtain ⟨f, hf⟩ : ∃ f, f = e + 1 := ⟨_, rfl⟩
  rw [← hf] at w5 hd5
  simp (maxSteps := 1000000) (disch := omega) only [push_cast, ↓wc_seq, ↓wc_block, ↓wc_scope, ↓wc_condL, ↓wc_region, ↓wr_cons, ↓wr_consgL, ↓wr_nil, ↓wo_pickL, ↓wo_callf, ↓wc_exit, ↓wc_ret, ↓wc_skip, ↓wc_wl, wo_some, wo_none, wo_ite, opQ_eq, seqQ_normal, seqQ_exit, seqQ_ret, blockQ_normal, blockQ_exit, blockQ_ret, iterQ_normal, iterQ_exit, iterQ_ret, retQ_normal, retQ_ret, retQ_exit, pickC_true, pickC_false, pickO_true, pickO_false, gstep_tt, gstep_ff, gstep_tf, gstep_ft, gstep_skip, int_bne, int_beq, decide_not, Nat.reduceAdd, Nat.reduceMul, Nat.reduceSub, Nat.reducePow, Nat.reduceLT, Nat.reduceLeDiff, Nat.reduceEqDiff, Int.reduceToNat, Int.reduceAdd, Int.reduceSub, Int.reduceNeg, Int.reduceMul, Int.reduceLT, Int.reduceLE, Int.reduceEq, le_max, ↓wo_build, ↓wo_buildSlice, evParts, ↓reduceIte, planIds, hasExt, cntFs, idxFs, clnFs, ovlFs, List.contains_cons, List.contains_nil, List.any_cons, List.any_nil, Nat.reduceBEq, setC, List.length_set, decide_eq_true_eq, decide_eq_false_iff_not, true_implies, false_implies, forall_const, reduceCtorEq, eq_self, Int.natCast_nonneg, Int.toNat_natCast, Int.ofNat_lt, D.int.injEq, Option.some.injEq, Nat.zero_add, Nat.add_zero, bne_iff_ne, bne_eq_false_iff_eq, beq_iff_eq, beq_eq_false_iff_ne, gt_iff_lt, ne_eq, not_true_eq_false, not_false_eq_true, planIds, hasExt, cntFs, idxFs, clnFs, ovlFs, List.contains_cons, List.contains_nil, List.any_cons, List.any_nil, Nat.reduceBEq, Nat.reduceMul, Nat.reduceAdd, ↓reduceIte, hal, h0, h1, h2, h3, h9, h10, w4, g3', ge_iff_le, w5]
  refine wl_loop (fun s a T' => ∃ (d4 : Array α) (j : Nat), a.length = 141 ∧ a[0]? = some (.os k 0 d.size x) ∧ a[1]? = some (.int .i64 lo) ∧ a[2]? = some (.int .i64 hi) ∧ a[3]? = some (cf) ∧ a[9]? = some (.int .i64 e) ∧ a[10]? = some (.int .i64 r) ∧ a[12]? = some (.int .i64 j) ∧ j = f + s ∧ d4.size = d.size ∧ R S0 k val d4 T' ∧ d5 = Sort.shiftUp (lt c) hi j d4) d.size ?_ (by omega) ?_
  · refine ⟨d3, f, ?_⟩
    simp (maxSteps := 1000000) (disch := omega) only [push_cast, ↓wc_seq, ↓wc_block, ↓wc_scope, ↓wc_condL, ↓wc_region, ↓wr_cons, ↓wr_consgL, ↓wr_nil, ↓wo_pickL, ↓wo_callf, ↓wc_exit, ↓wc_ret, ↓wc_skip, ↓wc_wl, wo_some, wo_none, wo_ite, opQ_eq, seqQ_normal, seqQ_exit, seqQ_ret, blockQ_normal, blockQ_exit, blockQ_ret, iterQ_normal, iterQ_exit, iterQ_ret, retQ_normal, retQ_ret, retQ_exit, pickC_true, pickC_false, pickO_true, pickO_false, gstep_tt, gstep_ff, gstep_tf, gstep_ft, gstep_skip, int_bne, int_beq, decide_not, Nat.reduceAdd, Nat.reduceMul, Nat.reduceSub, Nat.reducePow, Nat.reduceLT, Nat.reduceLeDiff, Nat.reduceEqDiff, Int.reduceToNat, Int.reduceAdd, Int.reduceSub, Int.reduceNeg, Int.reduceMul, Int.reduceLT, Int.reduceLE, Int.reduceEq, le_max, ↓wo_build, ↓wo_buildSlice, evParts, ↓reduceIte, planIds, hasExt, cntFs, idxFs, clnFs, ovlFs, List.contains_cons, List.contains_nil, List.any_cons, List.any_nil, Nat.reduceBEq, setC, List.length_set, decide_eq_true_eq, decide_eq_false_iff_not, true_implies, false_implies, forall_const, reduceCtorEq, eq_self, Int.natCast_nonneg, Int.toNat_natCast, Int.ofNat_lt, D.int.injEq, Option.some.injEq, Nat.zero_add, Nat.add_zero, bne_iff_ne, bne_eq_false_iff_eq, beq_iff_eq, beq_eq_false_iff_ne, gt_iff_lt, ne_eq, not_true_eq_false, not_false_eq_true, planIds, hasExt, cntFs, idxFs, clnFs, ovlFs, List.contains_cons, List.contains_nil, List.any_cons, List.any_nil, Nat.reduceBEq, Nat.reduceMul, Nat.reduceAdd, ↓reduceIte, hal, h0, h1, h2, h3, h9, h10, w5]
    exact ⟨hs3, hr, hd5⟩
  clear hal h0 h1 h2 h3 h9 h10 a
  clear hr
  rintro s a T' hs' ⟨d4, j, hal, h0, h1, h2, h3, h9, h10, h12, hj, hs4, hr, hqj⟩
  rw [Sort.shiftUp] at hqj
  by_cases g : j < hi
  case neg =>
    rw [if_neg g] at hqj
    simp (maxSteps := 1000000) (disch := omega) only [push_cast, ↓wc_seq, ↓wc_block, ↓wc_scope, ↓wc_condL, ↓wc_region, ↓wr_cons, ↓wr_consgL, ↓wr_nil, ↓wo_pickL, ↓wo_callf, ↓wc_exit, ↓wc_ret, ↓wc_skip, ↓wc_wl, wo_some, wo_none, wo_ite, opQ_eq, seqQ_normal, seqQ_exit, seqQ_ret, blockQ_normal, blockQ_exit, blockQ_ret, iterQ_normal, iterQ_exit, iterQ_ret, retQ_normal, retQ_ret, retQ_exit, pickC_true, pickC_false, pickO_true, pickO_false, gstep_tt, gstep_ff, gstep_tf, gstep_ft, gstep_skip, int_bne, int_beq, decide_not, Nat.reduceAdd, Nat.reduceMul, Nat.reduceSub, Nat.reducePow, Nat.reduceLT, Nat.reduceLeDiff, Nat.reduceEqDiff, Int.reduceToNat, Int.reduceAdd, Int.reduceSub, Int.reduceNeg, Int.reduceMul, Int.reduceLT, Int.reduceLE, Int.reduceEq, le_max, ↓wo_build, ↓wo_buildSlice, evParts, ↓reduceIte, planIds, hasExt, cntFs, idxFs, clnFs, ovlFs, List.contains_cons, List.contains_nil, List.any_cons, List.any_nil, Nat.reduceBEq, setC, List.length_set, decide_eq_true_eq, decide_eq_false_iff_not, true_implies, false_implies, forall_const, reduceCtorEq, eq_self, Int.natCast_nonneg, Int.toNat_natCast, Int.ofNat_lt, D.int.injEq, Option.some.injEq, Nat.zero_add, Nat.add_zero, bne_iff_ne, bne_eq_false_iff_eq, beq_iff_eq, beq_eq_false_iff_ne, gt_iff_lt, ne_eq, not_true_eq_false, not_false_eq_true, planIds, hasExt, cntFs, idxFs, clnFs, ovlFs, List.contains_cons, List.contains_nil, List.any_cons, List.any_nil, Nat.reduceBEq, Nat.reduceMul, Nat.reduceAdd, ↓reduceIte, hal, h0, h1, h2, h3, h9, h10, h12, g]
    rw [hqj]; exact hr
  rw [if_pos g] at hqj
  obtain ⟨j', hj1⟩ : ∃ j', j = j' + 1 := ⟨j - 1, by omega⟩
  have hj2 : j - 1 = j' := by omega
  rw [hj2] at hqj
  have w0 : IntKind.i64.wrap ((j : Int) - 1) = (j' : Int) := by rw [wrap_ok (by omega) (by omega)]; omega
  have b1 : j < d.size := by omega
  have b2 : j' < d.size := by omega
  have l1 := row_at (val := val) (d := d4) (i := j) (by omega)
  have l2 := row_at (val := val) (d := d4) (i := j') (by omega)
  have cc := fun st => hC n (by omega) d4 T' hr st d4[j]! d4[j']!
  by_cases e1 : c d4[j]! d4[j']! < 0
  · rw [if_neg (by simp [lt, e1])] at hqj
    have l3 := row_at (val := val) (d := d4.setIfInBounds j d4[j']!) (i := j') (by simp; omega)
    have hkl := hr.lt
    simp (maxSteps := 1000000) (disch := omega) only [push_cast, ↓wc_seq, ↓wc_block, ↓wc_scope, ↓wc_condL, ↓wc_region, ↓wr_cons, ↓wr_consgL, ↓wr_nil, ↓wo_pickL, ↓wo_callf, ↓wc_exit, ↓wc_ret, ↓wc_skip, ↓wc_wl, wo_some, wo_none, wo_ite, opQ_eq, seqQ_normal, seqQ_exit, seqQ_ret, blockQ_normal, blockQ_exit, blockQ_ret, iterQ_normal, iterQ_exit, iterQ_ret, retQ_normal, retQ_ret, retQ_exit, pickC_true, pickC_false, pickO_true, pickO_false, gstep_tt, gstep_ff, gstep_tf, gstep_ft, gstep_skip, int_bne, int_beq, decide_not, Nat.reduceAdd, Nat.reduceMul, Nat.reduceSub, Nat.reducePow, Nat.reduceLT, Nat.reduceLeDiff, Nat.reduceEqDiff, Int.reduceToNat, Int.reduceAdd, Int.reduceSub, Int.reduceNeg, Int.reduceMul, Int.reduceLT, Int.reduceLE, Int.reduceEq, le_max, ↓wo_build, ↓wo_buildSlice, evParts, ↓reduceIte, planIds, hasExt, cntFs, idxFs, clnFs, ovlFs, List.contains_cons, List.contains_nil, List.any_cons, List.any_nil, Nat.reduceBEq, setC, List.length_set, decide_eq_true_eq, decide_eq_false_iff_not, true_implies, false_implies, forall_const, reduceCtorEq, eq_self, Int.natCast_nonneg, Int.toNat_natCast, Int.ofNat_lt, D.int.injEq, Option.some.injEq, Nat.zero_add, Nat.add_zero, bne_iff_ne, bne_eq_false_iff_eq, beq_iff_eq, beq_eq_false_iff_ne, gt_iff_lt, ne_eq, not_true_eq_false, not_false_eq_true, planIds, hasExt, cntFs, idxFs, clnFs, ovlFs, List.contains_cons, List.contains_nil, List.any_cons, List.any_nil, Nat.reduceBEq, Nat.reduceMul, Nat.reduceAdd, ↓reduceIte, hal, h0, h1, h2, h3, h9, h10, h12, g, w0, hr.row, sz_el, b1, b2, l1, l2, ↓wo_callv, cc, e1, l3, hkl, cv, ov, row_set, List.set_set, wrap_ok]
    exact ⟨by omega, Sort.swp d4 j j', j + 1, by simp only [Int.natCast_add, Int.natCast_one], by omega, by rw [swp_size]; exact hs4, hr.put, hqj⟩
  · rw [if_pos (by simp [lt, e1])] at hqj
    simp (maxSteps := 1000000) (disch := omega) only [push_cast, ↓wc_seq, ↓wc_block, ↓wc_scope, ↓wc_condL, ↓wc_region, ↓wr_cons, ↓wr_consgL, ↓wr_nil, ↓wo_pickL, ↓wo_callf, ↓wc_exit, ↓wc_ret, ↓wc_skip, ↓wc_wl, wo_some, wo_none, wo_ite, opQ_eq, seqQ_normal, seqQ_exit, seqQ_ret, blockQ_normal, blockQ_exit, blockQ_ret, iterQ_normal, iterQ_exit, iterQ_ret, retQ_normal, retQ_ret, retQ_exit, pickC_true, pickC_false, pickO_true, pickO_false, gstep_tt, gstep_ff, gstep_tf, gstep_ft, gstep_skip, int_bne, int_beq, decide_not, Nat.reduceAdd, Nat.reduceMul, Nat.reduceSub, Nat.reducePow, Nat.reduceLT, Nat.reduceLeDiff, Nat.reduceEqDiff, Int.reduceToNat, Int.reduceAdd, Int.reduceSub, Int.reduceNeg, Int.reduceMul, Int.reduceLT, Int.reduceLE, Int.reduceEq, le_max, ↓wo_build, ↓wo_buildSlice, evParts, ↓reduceIte, planIds, hasExt, cntFs, idxFs, clnFs, ovlFs, List.contains_cons, List.contains_nil, List.any_cons, List.any_nil, Nat.reduceBEq, setC, List.length_set, decide_eq_true_eq, decide_eq_false_iff_not, true_implies, false_implies, forall_const, reduceCtorEq, eq_self, Int.natCast_nonneg, Int.toNat_natCast, Int.ofNat_lt, D.int.injEq, Option.some.injEq, Nat.zero_add, Nat.add_zero, bne_iff_ne, bne_eq_false_iff_eq, beq_iff_eq, beq_eq_false_iff_ne, gt_iff_lt, ne_eq, not_true_eq_false, not_false_eq_true, planIds, hasExt, cntFs, idxFs, clnFs, ovlFs, List.contains_cons, List.contains_nil, List.any_cons, List.any_nil, Nat.reduceBEq, Nat.reduceMul, Nat.reduceAdd, ↓reduceIte, hal, h0, h1, h2, h3, h9, h10, h12, g, w0, hr.row, sz_el, b1, b2, l1, l2, ↓wo_callv, cc, e1]
    rw [hqj]; exact hr
end Srt

namespace Srt
variable {α : Type} {S0 T : List Ob} {k : Nat} {val : α → D} {d : Array α} {cf : D} {c : α → α → Int}
/-- A box that holds a number. -/
def Bx (kd : IntKind) (T : List Ob) (q : Nat) : Prop := ∃ s : Int, T[q]? = some (.row 1 [[.int kd s]])
theorem R.setq (h : R S0 k val d T) {q : Nat} {o : Ob} (hq : S0.length ≤ q) (hk : q ≠ k) : R S0 k val d (T.set q o) where
  row := by rw [List.getElem?_set_ne hk]; exact h.row
  old := fun j o' hj ho => by
    have : j < S0.length := (List.getElem?_eq_some_iff.1 ho).1
    rw [List.getElem?_set_ne (by omega)]; exact h.old j o' hj ho
  len := by rw [List.length_set]; exact h.len
theorem loc_own {kk i o : Nat} {l : List D} : pureL (.loc kk i o :: l) = false := by simp [pureL_cons, D.pure]
variable [Inhabited α]
set_option maxHeartbeats 4000000 in
set_option maxRecDepth 100000 in
theorem order2_d {n n0 p q b : Nat} {x : Bool} (hC : CmpOk n0 S0 k val cf c) (hn : n0 ≤ n) (hp : p < d.size) (hq : q < d.size) (hz : d.size ≤ 100000) (h : R S0 k val d T) (hb : Bx .i64 T b) (hbS : S0.length ≤ b) (hbk : b ≠ k) :
    WO (dcall E (n + 1) 101 [.os k 0 d.size x, .int .i64 p, .int .i64 q, .loc b 0 0, cf] T) fun r T' => ∃ u v : Nat, r = .tup [.int .i64 u, .int .i64 v] ∧ ((u = p ∧ v = q) ∨ (u = q ∧ v = p)) ∧ R S0 k val d T' ∧ Bx .i64 T' b := by
  obtain ⟨s, hs⟩ := hb
  refine wo_dcall Tryd.func101 rfl (by decide) rfl 32 rfl (fun a hal ha => ?_)
  have h0 : a[0]? = some (.os k 0 d.size x) := ha 0 (by simp)
  have h1 : a[1]? = some (.int .i64 p) := ha 1 (by simp)
  have h2 : a[2]? = some (.int .i64 q) := ha 2 (by simp)
  have h3 : a[3]? = some (.loc b 0 0) := ha 3 (by simp)
  have h4 : a[4]? = some (cf) := ha 4 (by simp)
  clear ha
  have l1 := row_at (val := val) (d := d) (i := p) (by omega)
  have l2 := row_at (val := val) (d := d) (i := q) (by omega)
  have cc := fun st => hC n (by omega) d T h st d[q]! d[p]!
  have hbl : b < T.length := (List.getElem?_eq_some_iff.1 hs).1
  by_cases e1 : c d[q]! d[p]! < 0
  · simp (maxSteps := 1000000) (disch := omega) only [push_cast, ↓wc_seq, ↓wc_block, ↓wc_scope, ↓wc_condL, ↓wc_region, ↓wr_cons, ↓wr_consgL, ↓wr_nil, ↓wo_pickL, ↓wo_callf, ↓wc_exit, ↓wc_ret, ↓wc_skip, ↓wc_wl, wo_some, wo_none, wo_ite, opQ_eq, seqQ_normal, seqQ_exit, seqQ_ret, blockQ_normal, blockQ_exit, blockQ_ret, iterQ_normal, iterQ_exit, iterQ_ret, retQ_normal, retQ_ret, retQ_exit, pickC_true, pickC_false, pickO_true, pickO_false, gstep_tt, gstep_ff, gstep_tf, gstep_ft, gstep_skip, int_bne, int_beq, decide_not, Nat.reduceAdd, Nat.reduceMul, Nat.reduceSub, Nat.reducePow, Nat.reduceLT, Nat.reduceLeDiff, Nat.reduceEqDiff, Int.reduceToNat, Int.reduceAdd, Int.reduceSub, Int.reduceNeg, Int.reduceMul, Int.reduceLT, Int.reduceLE, Int.reduceEq, le_max, ↓wo_build, ↓wo_buildSlice, evParts, ↓reduceIte, planIds, hasExt, cntFs, idxFs, clnFs, ovlFs, List.contains_cons, List.contains_nil, List.any_cons, List.any_nil, Nat.reduceBEq, setC, List.length_set, decide_eq_true_eq, decide_eq_false_iff_not, true_implies, false_implies, forall_const, reduceCtorEq, eq_self, Int.natCast_nonneg, Int.toNat_natCast, Int.ofNat_lt, D.int.injEq, Option.some.injEq, Nat.zero_add, Nat.add_zero, bne_iff_ne, bne_eq_false_iff_eq, beq_iff_eq, beq_eq_false_iff_ne, gt_iff_lt, ne_eq, not_true_eq_false, not_false_eq_true, planIds, hasExt, cntFs, idxFs, clnFs, ovlFs, List.contains_cons, List.contains_nil, List.any_cons, List.any_nil, Nat.reduceBEq, Nat.reduceMul, Nat.reduceAdd, ↓reduceIte, hal, h0, h1, h2, h3, h4, h.row, sz_el, hp, hq, l1, l2, ↓wo_callv, cc, e1, hs, Tryd.f101]
    exact ⟨q, p, rfl, .inr ⟨rfl, rfl⟩, h.setq hbS hbk, _, List.getElem?_set_self hbl⟩
  · simp (maxSteps := 1000000) (disch := omega) only [push_cast, ↓wc_seq, ↓wc_block, ↓wc_scope, ↓wc_condL, ↓wc_region, ↓wr_cons, ↓wr_consgL, ↓wr_nil, ↓wo_pickL, ↓wo_callf, ↓wc_exit, ↓wc_ret, ↓wc_skip, ↓wc_wl, wo_some, wo_none, wo_ite, opQ_eq, seqQ_normal, seqQ_exit, seqQ_ret, blockQ_normal, blockQ_exit, blockQ_ret, iterQ_normal, iterQ_exit, iterQ_ret, retQ_normal, retQ_ret, retQ_exit, pickC_true, pickC_false, pickO_true, pickO_false, gstep_tt, gstep_ff, gstep_tf, gstep_ft, gstep_skip, int_bne, int_beq, decide_not, Nat.reduceAdd, Nat.reduceMul, Nat.reduceSub, Nat.reducePow, Nat.reduceLT, Nat.reduceLeDiff, Nat.reduceEqDiff, Int.reduceToNat, Int.reduceAdd, Int.reduceSub, Int.reduceNeg, Int.reduceMul, Int.reduceLT, Int.reduceLE, Int.reduceEq, le_max, ↓wo_build, ↓wo_buildSlice, evParts, ↓reduceIte, planIds, hasExt, cntFs, idxFs, clnFs, ovlFs, List.contains_cons, List.contains_nil, List.any_cons, List.any_nil, Nat.reduceBEq, setC, List.length_set, decide_eq_true_eq, decide_eq_false_iff_not, true_implies, false_implies, forall_const, reduceCtorEq, eq_self, Int.natCast_nonneg, Int.toNat_natCast, Int.ofNat_lt, D.int.injEq, Option.some.injEq, Nat.zero_add, Nat.add_zero, bne_iff_ne, bne_eq_false_iff_eq, beq_iff_eq, beq_eq_false_iff_ne, gt_iff_lt, ne_eq, not_true_eq_false, not_false_eq_true, planIds, hasExt, cntFs, idxFs, clnFs, ovlFs, List.contains_cons, List.contains_nil, List.any_cons, List.any_nil, Nat.reduceBEq, Nat.reduceMul, Nat.reduceAdd, ↓reduceIte, hal, h0, h1, h2, h3, h4, h.row, sz_el, hp, hq, l1, l2, ↓wo_callv, cc, e1, hs, Tryd.f101]
    exact ⟨p, q, rfl, .inl ⟨rfl, rfl⟩, h, s, hs⟩
set_option maxHeartbeats 4000000 in
set_option maxRecDepth 100000 in
theorem median_d {n n0 p q r b : Nat} {x : Bool} (hC : CmpOk n0 S0 k val cf c) (hn : n0 + 1 ≤ n) (hp : p < d.size) (hq : q < d.size) (hr : r < d.size) (hz : d.size ≤ 100000) (h : R S0 k val d T) (hb : Bx .i64 T b) (hbS : S0.length ≤ b) (hbk : b ≠ k) :
    WO (dcall E (n + 1) 96 [.os k 0 d.size x, .int .i64 p, .int .i64 q, .int .i64 r, .loc b 0 0, cf] T) fun o T' => ∃ u : Nat, o = .int .i64 u ∧ (u = p ∨ u = q ∨ u = r) ∧ R S0 k val d T' ∧ Bx .i64 T' b := by
  obtain ⟨m, rfl⟩ : ∃ m, n = m + 1 := ⟨n - 1, by omega⟩
  obtain ⟨_, T1, c1, u1, v1, rfl, k1, h1', b1⟩ := order2_d (n := m) (x := x) hC (by omega) hp hq hz h hb hbS hbk
  have c1 := (callD_own (f := 101) rfl pure_own).trans c1
  obtain ⟨_, T2, c2, u2, v2, rfl, k2, h2', b2⟩ := order2_d (n := m) (p := v1) (q := r) (x := x) hC (by omega) (by omega) hr hz h1' b1 hbS hbk
  have c2 := (callD_own (f := 101) rfl pure_own).trans c2
  obtain ⟨_, T3, c3, u3, v3, rfl, k3, h3', b3⟩ := order2_d (n := m) (p := u1) (q := u2) (x := x) hC (by omega) (by omega) (by omega) hz h2' b2 hbS hbk
  have c3 := (callD_own (f := 101) rfl pure_own).trans c3
  refine wo_dcall Tryd.func96 rfl (by decide) rfl 41 rfl (fun a hal ha => ?_)
  have h0 : a[0]? = some (.os k 0 d.size x) := ha 0 (by simp)
  have h1 : a[1]? = some (.int .i64 p) := ha 1 (by simp)
  have h2 : a[2]? = some (.int .i64 q) := ha 2 (by simp)
  have h3 : a[3]? = some (.int .i64 r) := ha 3 (by simp)
  have h4 : a[4]? = some (.loc b 0 0) := ha 4 (by simp)
  have h5 : a[5]? = some (cf) := ha 5 (by simp)
  clear ha
  simp (maxSteps := 1000000) (disch := omega) only [push_cast, ↓wc_seq, ↓wc_block, ↓wc_scope, ↓wc_condL, ↓wc_region, ↓wr_cons, ↓wr_consgL, ↓wr_nil, ↓wo_pickL, ↓wo_callf, ↓wc_exit, ↓wc_ret, ↓wc_skip, ↓wc_wl, wo_some, wo_none, wo_ite, opQ_eq, seqQ_normal, seqQ_exit, seqQ_ret, blockQ_normal, blockQ_exit, blockQ_ret, iterQ_normal, iterQ_exit, iterQ_ret, retQ_normal, retQ_ret, retQ_exit, pickC_true, pickC_false, pickO_true, pickO_false, gstep_tt, gstep_ff, gstep_tf, gstep_ft, gstep_skip, int_bne, int_beq, decide_not, Nat.reduceAdd, Nat.reduceMul, Nat.reduceSub, Nat.reducePow, Nat.reduceLT, Nat.reduceLeDiff, Nat.reduceEqDiff, Int.reduceToNat, Int.reduceAdd, Int.reduceSub, Int.reduceNeg, Int.reduceMul, Int.reduceLT, Int.reduceLE, Int.reduceEq, le_max, ↓wo_build, ↓wo_buildSlice, evParts, ↓reduceIte, planIds, hasExt, cntFs, idxFs, clnFs, ovlFs, List.contains_cons, List.contains_nil, List.any_cons, List.any_nil, Nat.reduceBEq, setC, List.length_set, decide_eq_true_eq, decide_eq_false_iff_not, true_implies, false_implies, forall_const, reduceCtorEq, eq_self, Int.natCast_nonneg, Int.toNat_natCast, Int.ofNat_lt, D.int.injEq, Option.some.injEq, Nat.zero_add, Nat.add_zero, bne_iff_ne, bne_eq_false_iff_eq, beq_iff_eq, beq_eq_false_iff_ne, gt_iff_lt, ne_eq, not_true_eq_false, not_false_eq_true, planIds, hasExt, cntFs, idxFs, clnFs, ovlFs, List.contains_cons, List.contains_nil, List.any_cons, List.any_nil, Nat.reduceBEq, Nat.reduceMul, Nat.reduceAdd, ↓reduceIte, hal, h0, h1, h2, h3, h4, h5, c1, c2, c3, Tryd.f96]
  exact ⟨v3, rfl, by omega, h3', b3⟩
set_option maxHeartbeats 4000000 in
set_option maxRecDepth 100000 in
theorem medAdj_d {n n0 p b : Nat} {x : Bool} (hC : CmpOk n0 S0 k val cf c) (hn : n0 + 2 ≤ n) (hp : 1 ≤ p) (hq : p + 1 < d.size) (hz : d.size ≤ 100000) (h : R S0 k val d T) (hb : Bx .i64 T b) (hbS : S0.length ≤ b) (hbk : b ≠ k) :
    WO (dcall E (n + 1) 95 [.os k 0 d.size x, .int .i64 p, .loc b 0 0, cf] T) fun o T' => ∃ u : Nat, o = .int .i64 u ∧ p ≤ u + 1 ∧ u ≤ p + 1 ∧ R S0 k val d T' ∧ Bx .i64 T' b := by
  obtain ⟨m, rfl⟩ : ∃ m, n = m + 1 := ⟨n - 1, by omega⟩
  obtain ⟨p0, hp0⟩ : ∃ p0, p0 = p - 1 := ⟨_, rfl⟩
  obtain ⟨p2, hp2⟩ : ∃ p2, p2 = p + 1 := ⟨_, rfl⟩
  have w1 : IntKind.i64.wrap ((p : Int) - 1) = (p0 : Int) := by rw [wrap_ok (by omega) (by omega)]; omega
  have w2 : IntKind.i64.wrap ((p : Int) + 1) = (p2 : Int) := by rw [wrap_ok (by omega) (by omega)]; omega
  obtain ⟨_, T1, c1, u1, rfl, k1, h1', b1⟩ := median_d (n := m) (p := p0) (q := p) (r := p2) (x := x) hC (by omega) (by omega) (by omega) (by omega) hz h hb hbS hbk
  have c1 := (callD_own (f := 96) rfl pure_own).trans c1
  refine wo_dcall Tryd.func95 rfl (by decide) rfl 18 rfl (fun a hal ha => ?_)
  have h0 : a[0]? = some (.os k 0 d.size x) := ha 0 (by simp)
  have h1 : a[1]? = some (.int .i64 p) := ha 1 (by simp)
  have h2 : a[2]? = some (.loc b 0 0) := ha 2 (by simp)
  have h3 : a[3]? = some (cf) := ha 3 (by simp)
  clear ha
  simp (maxSteps := 1000000) (disch := omega) only [push_cast, ↓wc_seq, ↓wc_block, ↓wc_scope, ↓wc_condL, ↓wc_region, ↓wr_cons, ↓wr_consgL, ↓wr_nil, ↓wo_pickL, ↓wo_callf, ↓wc_exit, ↓wc_ret, ↓wc_skip, ↓wc_wl, wo_some, wo_none, wo_ite, opQ_eq, seqQ_normal, seqQ_exit, seqQ_ret, blockQ_normal, blockQ_exit, blockQ_ret, iterQ_normal, iterQ_exit, iterQ_ret, retQ_normal, retQ_ret, retQ_exit, pickC_true, pickC_false, pickO_true, pickO_false, gstep_tt, gstep_ff, gstep_tf, gstep_ft, gstep_skip, int_bne, int_beq, decide_not, Nat.reduceAdd, Nat.reduceMul, Nat.reduceSub, Nat.reducePow, Nat.reduceLT, Nat.reduceLeDiff, Nat.reduceEqDiff, Int.reduceToNat, Int.reduceAdd, Int.reduceSub, Int.reduceNeg, Int.reduceMul, Int.reduceLT, Int.reduceLE, Int.reduceEq, le_max, ↓wo_build, ↓wo_buildSlice, evParts, ↓reduceIte, planIds, hasExt, cntFs, idxFs, clnFs, ovlFs, List.contains_cons, List.contains_nil, List.any_cons, List.any_nil, Nat.reduceBEq, setC, List.length_set, decide_eq_true_eq, decide_eq_false_iff_not, true_implies, false_implies, forall_const, reduceCtorEq, eq_self, Int.natCast_nonneg, Int.toNat_natCast, Int.ofNat_lt, D.int.injEq, Option.some.injEq, Nat.zero_add, Nat.add_zero, bne_iff_ne, bne_eq_false_iff_eq, beq_iff_eq, beq_eq_false_iff_ne, gt_iff_lt, ne_eq, not_true_eq_false, not_false_eq_true, planIds, hasExt, cntFs, idxFs, clnFs, ovlFs, List.contains_cons, List.contains_nil, List.any_cons, List.any_nil, Nat.reduceBEq, Nat.reduceMul, Nat.reduceAdd, ↓reduceIte, hal, h0, h1, h2, h3, w1, w2, c1, Tryd.f95]
  exact ⟨u1, rfl, by omega, by omega, h1', b1⟩
set_option maxHeartbeats 8000000 in
set_option maxRecDepth 100000 in
theorem choose_d {n n0 lo hi : Nat} {x : Bool} (hC : CmpOk n0 S0 k val cf c) (hn : n0 + 3 ≤ n) (hab : lo + 12 < hi) (hb : hi ≤ d.size) (hz : d.size ≤ 100000) (h : R S0 k val d T) :
    WO (dcall E (n + 1) 81 [.os k 0 d.size x, .int .i64 lo, .int .i64 hi, cf] T) fun o T' => ∃ (u : Nat) (e : Int), o = .tup [.int .i64 u, .int .i64 e] ∧ lo ≤ u ∧ u < hi ∧ R S0 k val d T' := by
  obtain ⟨m, rfl⟩ : ∃ m, n = m + 1 := ⟨n - 1, by omega⟩
  obtain ⟨ln, hln⟩ : ∃ ln, ln = hi - lo := ⟨_, rfl⟩
  obtain ⟨qu, hqu⟩ : ∃ qu, qu = ln / 4 := ⟨_, rfl⟩
  have w1 : IntKind.i64.wrap ((hi : Int) - (lo : Int)) = (ln : Int) := by rw [wrap_ok (by omega) (by omega)]; omega
  have w2 : IntKind.i64.wrap ((ln : Int).tdiv 4) = (qu : Int) := by
    rw [show (4 : Int) = ((4 : Nat) : Int) from rfl, ← Int.ofNat_tdiv, wrap_ok (by omega) (by omega), hqu]
  obtain ⟨i, hi'⟩ : ∃ i, i = lo + qu * 1 := ⟨_, rfl⟩
  obtain ⟨j, hj'⟩ : ∃ i, i = lo + qu * 2 := ⟨_, rfl⟩
  obtain ⟨l, hl'⟩ : ∃ i, i = lo + qu * 3 := ⟨_, rfl⟩
  have w3 : IntKind.i64.wrap ((lo : Int) + IntKind.i64.wrap ((qu : Int) * 1)) = (i : Int) := by rw [wrap_ok (x := (qu : Int) * 1) (by omega) (by omega), wrap_ok (by omega) (by omega)]; omega
  have w4 : IntKind.i64.wrap ((lo : Int) + IntKind.i64.wrap ((qu : Int) * 2)) = (j : Int) := by rw [wrap_ok (x := (qu : Int) * 2) (by omega) (by omega), wrap_ok (by omega) (by omega)]; omega
  have w5 : IntKind.i64.wrap ((lo : Int) + IntKind.i64.wrap ((qu : Int) * 3)) = (l : Int) := by rw [wrap_ok (x := (qu : Int) * 3) (by omega) (by omega), wrap_ok (by omega) (by omega)]; omega
  have g8 : (8 : Int) ≤ (ln : Int) := by omega
  have hpush := h.push (.row 1 [[.int .i64 0]])
  have hkl := h.lt
  have hbx : Bx .i64 (T ++ [.row 1 [[.int .i64 0]]]) T.length := ⟨0, get_end⟩
  have hSl := h.len
  have hTk : T.length ≠ k := by omega
  refine wo_dcall Tryd.func81 rfl (by decide) rfl 63 rfl (fun a hal ha => ?_)
  have h0 : a[0]? = some (.os k 0 d.size x) := ha 0 (by simp)
  have h1 : a[1]? = some (.int .i64 lo) := ha 1 (by simp)
  have h2 : a[2]? = some (.int .i64 hi) := ha 2 (by simp)
  have h3 : a[3]? = some (cf) := ha 3 (by simp)
  clear ha
  generalize hTq : T.length = tq at *
  have fin : ∀ (u : Nat) (T' : List Ob), lo ≤ u → u < hi → R S0 k val d T' → Bx .i64 T' tq → ∀ a : List D, a.length = 63 ∧ a[11]? = some (.loc tq 0 0) ∧ a[13]? = some (.int .i64 u) → True := fun _ _ _ _ _ _ _ _ => trivial
  clear fin
  by_cases g50 : 50 ≤ ln
  · have g50' : (50 : Int) ≤ (ln : Int) := by omega
    obtain ⟨_, T1, c1, u1, rfl, k1, k1', r1, b1⟩ := medAdj_d (n := m) (p := i) (x := x) hC (by omega) (by omega) (by omega) hz hpush hbx (by omega) hTk
    have c1 := (callD_own (f := 95) rfl pure_own).trans c1
    obtain ⟨_, T2, c2, u2, rfl, k2, k2', r2, b2⟩ := medAdj_d (n := m) (p := j) (x := x) hC (by omega) (by omega) (by omega) hz r1 b1 (by omega) hTk
    have c2 := (callD_own (f := 95) rfl pure_own).trans c2
    obtain ⟨_, T3, c3, u3, rfl, k3, k3', r3, b3⟩ := medAdj_d (n := m) (p := l) (x := x) hC (by omega) (by omega) (by omega) hz r2 b2 (by omega) hTk
    have c3 := (callD_own (f := 95) rfl pure_own).trans c3
    obtain ⟨_, T4, c4, u4, rfl, k4, r4, s, b4⟩ := median_d (n := m) (p := u1) (q := u2) (r := u3) (x := x) hC (by omega) (by omega) (by omega) (by omega) hz r3 b3 (by omega) hTk
    have c4 := (callD_own (f := 96) rfl pure_own).trans c4
    by_cases g1 : s = 0
    · subst g1
      simp (maxSteps := 1000000) (disch := omega) only [push_cast, ↓wc_seq, ↓wc_block, ↓wc_scope, ↓wc_condL, ↓wc_region, ↓wr_cons, ↓wr_consgL, ↓wr_nil, ↓wo_pickL, ↓wo_callf, ↓wc_exit, ↓wc_ret, ↓wc_skip, ↓wc_wl, wo_some, wo_none, wo_ite, opQ_eq, seqQ_normal, seqQ_exit, seqQ_ret, blockQ_normal, blockQ_exit, blockQ_ret, iterQ_normal, iterQ_exit, iterQ_ret, retQ_normal, retQ_ret, retQ_exit, pickC_true, pickC_false, pickO_true, pickO_false, gstep_tt, gstep_ff, gstep_tf, gstep_ft, gstep_skip, int_bne, int_beq, decide_not, Nat.reduceAdd, Nat.reduceMul, Nat.reduceSub, Nat.reducePow, Nat.reduceLT, Nat.reduceLeDiff, Nat.reduceEqDiff, Int.reduceToNat, Int.reduceAdd, Int.reduceSub, Int.reduceNeg, Int.reduceMul, Int.reduceLT, Int.reduceLE, Int.reduceEq, le_max, ↓wo_build, ↓wo_buildSlice, evParts, ↓reduceIte, planIds, hasExt, cntFs, idxFs, clnFs, ovlFs, List.contains_cons, List.contains_nil, List.any_cons, List.any_nil, Nat.reduceBEq, setC, List.length_set, decide_eq_true_eq, decide_eq_false_iff_not, true_implies, false_implies, forall_const, reduceCtorEq, eq_self, Int.natCast_nonneg, Int.toNat_natCast, Int.ofNat_lt, D.int.injEq, Option.some.injEq, Nat.zero_add, Nat.add_zero, bne_iff_ne, bne_eq_false_iff_eq, beq_iff_eq, beq_eq_false_iff_ne, gt_iff_lt, ne_eq, not_true_eq_false, not_false_eq_true, planIds, hasExt, cntFs, idxFs, clnFs, ovlFs, List.contains_cons, List.contains_nil, List.any_cons, List.any_nil, Nat.reduceBEq, Nat.reduceMul, Nat.reduceAdd, ↓reduceIte, hal, h0, h1, h2, h3, hTq, w1, w2, w3, w4, w5, g8, g50', ge_iff_le, c1, c2, c3, c4, b4, Tryd.f81]
      exact ⟨u4, _, rfl, by omega, by omega, r4⟩
    by_cases g2 : s = 12
    · subst g2
      simp (maxSteps := 1000000) (disch := omega) only [push_cast, ↓wc_seq, ↓wc_block, ↓wc_scope, ↓wc_condL, ↓wc_region, ↓wr_cons, ↓wr_consgL, ↓wr_nil, ↓wo_pickL, ↓wo_callf, ↓wc_exit, ↓wc_ret, ↓wc_skip, ↓wc_wl, wo_some, wo_none, wo_ite, opQ_eq, seqQ_normal, seqQ_exit, seqQ_ret, blockQ_normal, blockQ_exit, blockQ_ret, iterQ_normal, iterQ_exit, iterQ_ret, retQ_normal, retQ_ret, retQ_exit, pickC_true, pickC_false, pickO_true, pickO_false, gstep_tt, gstep_ff, gstep_tf, gstep_ft, gstep_skip, int_bne, int_beq, decide_not, Nat.reduceAdd, Nat.reduceMul, Nat.reduceSub, Nat.reducePow, Nat.reduceLT, Nat.reduceLeDiff, Nat.reduceEqDiff, Int.reduceToNat, Int.reduceAdd, Int.reduceSub, Int.reduceNeg, Int.reduceMul, Int.reduceLT, Int.reduceLE, Int.reduceEq, le_max, ↓wo_build, ↓wo_buildSlice, evParts, ↓reduceIte, planIds, hasExt, cntFs, idxFs, clnFs, ovlFs, List.contains_cons, List.contains_nil, List.any_cons, List.any_nil, Nat.reduceBEq, setC, List.length_set, decide_eq_true_eq, decide_eq_false_iff_not, true_implies, false_implies, forall_const, reduceCtorEq, eq_self, Int.natCast_nonneg, Int.toNat_natCast, Int.ofNat_lt, D.int.injEq, Option.some.injEq, Nat.zero_add, Nat.add_zero, bne_iff_ne, bne_eq_false_iff_eq, beq_iff_eq, beq_eq_false_iff_ne, gt_iff_lt, ne_eq, not_true_eq_false, not_false_eq_true, planIds, hasExt, cntFs, idxFs, clnFs, ovlFs, List.contains_cons, List.contains_nil, List.any_cons, List.any_nil, Nat.reduceBEq, Nat.reduceMul, Nat.reduceAdd, ↓reduceIte, hal, h0, h1, h2, h3, hTq, w1, w2, w3, w4, w5, g8, g50', ge_iff_le, c1, c2, c3, c4, b4, Tryd.f81]
      exact ⟨u4, _, rfl, by omega, by omega, r4⟩
    · simp (maxSteps := 1000000) (disch := omega) only [push_cast, ↓wc_seq, ↓wc_block, ↓wc_scope, ↓wc_condL, ↓wc_region, ↓wr_cons, ↓wr_consgL, ↓wr_nil, ↓wo_pickL, ↓wo_callf, ↓wc_exit, ↓wc_ret, ↓wc_skip, ↓wc_wl, wo_some, wo_none, wo_ite, opQ_eq, seqQ_normal, seqQ_exit, seqQ_ret, blockQ_normal, blockQ_exit, blockQ_ret, iterQ_normal, iterQ_exit, iterQ_ret, retQ_normal, retQ_ret, retQ_exit, pickC_true, pickC_false, pickO_true, pickO_false, gstep_tt, gstep_ff, gstep_tf, gstep_ft, gstep_skip, int_bne, int_beq, decide_not, Nat.reduceAdd, Nat.reduceMul, Nat.reduceSub, Nat.reducePow, Nat.reduceLT, Nat.reduceLeDiff, Nat.reduceEqDiff, Int.reduceToNat, Int.reduceAdd, Int.reduceSub, Int.reduceNeg, Int.reduceMul, Int.reduceLT, Int.reduceLE, Int.reduceEq, le_max, ↓wo_build, ↓wo_buildSlice, evParts, ↓reduceIte, planIds, hasExt, cntFs, idxFs, clnFs, ovlFs, List.contains_cons, List.contains_nil, List.any_cons, List.any_nil, Nat.reduceBEq, setC, List.length_set, decide_eq_true_eq, decide_eq_false_iff_not, true_implies, false_implies, forall_const, reduceCtorEq, eq_self, Int.natCast_nonneg, Int.toNat_natCast, Int.ofNat_lt, D.int.injEq, Option.some.injEq, Nat.zero_add, Nat.add_zero, bne_iff_ne, bne_eq_false_iff_eq, beq_iff_eq, beq_eq_false_iff_ne, gt_iff_lt, ne_eq, not_true_eq_false, not_false_eq_true, planIds, hasExt, cntFs, idxFs, clnFs, ovlFs, List.contains_cons, List.contains_nil, List.any_cons, List.any_nil, Nat.reduceBEq, Nat.reduceMul, Nat.reduceAdd, ↓reduceIte, hal, h0, h1, h2, h3, hTq, w1, w2, w3, w4, w5, g8, g50', ge_iff_le, c1, c2, c3, c4, b4, g1, g2, Tryd.f81]
      exact ⟨u4, _, rfl, by omega, by omega, r4⟩
  · have g50' : ¬ (50 : Int) ≤ (ln : Int) := by omega
    obtain ⟨_, T4, c4, u4, rfl, k4, r4, s, b4⟩ := median_d (n := m) (p := i) (q := j) (r := l) (x := x) hC (by omega) (by omega) (by omega) (by omega) hz hpush hbx (by omega) hTk
    have c4 := (callD_own (f := 96) rfl pure_own).trans c4
    by_cases g1 : s = 0
    · subst g1
      simp (maxSteps := 1000000) (disch := omega) only [push_cast, ↓wc_seq, ↓wc_block, ↓wc_scope, ↓wc_condL, ↓wc_region, ↓wr_cons, ↓wr_consgL, ↓wr_nil, ↓wo_pickL, ↓wo_callf, ↓wc_exit, ↓wc_ret, ↓wc_skip, ↓wc_wl, wo_some, wo_none, wo_ite, opQ_eq, seqQ_normal, seqQ_exit, seqQ_ret, blockQ_normal, blockQ_exit, blockQ_ret, iterQ_normal, iterQ_exit, iterQ_ret, retQ_normal, retQ_ret, retQ_exit, pickC_true, pickC_false, pickO_true, pickO_false, gstep_tt, gstep_ff, gstep_tf, gstep_ft, gstep_skip, int_bne, int_beq, decide_not, Nat.reduceAdd, Nat.reduceMul, Nat.reduceSub, Nat.reducePow, Nat.reduceLT, Nat.reduceLeDiff, Nat.reduceEqDiff, Int.reduceToNat, Int.reduceAdd, Int.reduceSub, Int.reduceNeg, Int.reduceMul, Int.reduceLT, Int.reduceLE, Int.reduceEq, le_max, ↓wo_build, ↓wo_buildSlice, evParts, ↓reduceIte, planIds, hasExt, cntFs, idxFs, clnFs, ovlFs, List.contains_cons, List.contains_nil, List.any_cons, List.any_nil, Nat.reduceBEq, setC, List.length_set, decide_eq_true_eq, decide_eq_false_iff_not, true_implies, false_implies, forall_const, reduceCtorEq, eq_self, Int.natCast_nonneg, Int.toNat_natCast, Int.ofNat_lt, D.int.injEq, Option.some.injEq, Nat.zero_add, Nat.add_zero, bne_iff_ne, bne_eq_false_iff_eq, beq_iff_eq, beq_eq_false_iff_ne, gt_iff_lt, ne_eq, not_true_eq_false, not_false_eq_true, planIds, hasExt, cntFs, idxFs, clnFs, ovlFs, List.contains_cons, List.contains_nil, List.any_cons, List.any_nil, Nat.reduceBEq, Nat.reduceMul, Nat.reduceAdd, ↓reduceIte, hal, h0, h1, h2, h3, hTq, w1, w2, w3, w4, w5, g8, g50', ge_iff_le, c4, b4, Tryd.f81]
      exact ⟨u4, _, rfl, by omega, by omega, r4⟩
    by_cases g2 : s = 12
    · subst g2
      simp (maxSteps := 1000000) (disch := omega) only [push_cast, ↓wc_seq, ↓wc_block, ↓wc_scope, ↓wc_condL, ↓wc_region, ↓wr_cons, ↓wr_consgL, ↓wr_nil, ↓wo_pickL, ↓wo_callf, ↓wc_exit, ↓wc_ret, ↓wc_skip, ↓wc_wl, wo_some, wo_none, wo_ite, opQ_eq, seqQ_normal, seqQ_exit, seqQ_ret, blockQ_normal, blockQ_exit, blockQ_ret, iterQ_normal, iterQ_exit, iterQ_ret, retQ_normal, retQ_ret, retQ_exit, pickC_true, pickC_false, pickO_true, pickO_false, gstep_tt, gstep_ff, gstep_tf, gstep_ft, gstep_skip, int_bne, int_beq, decide_not, Nat.reduceAdd, Nat.reduceMul, Nat.reduceSub, Nat.reducePow, Nat.reduceLT, Nat.reduceLeDiff, Nat.reduceEqDiff, Int.reduceToNat, Int.reduceAdd, Int.reduceSub, Int.reduceNeg, Int.reduceMul, Int.reduceLT, Int.reduceLE, Int.reduceEq, le_max, ↓wo_build, ↓wo_buildSlice, evParts, ↓reduceIte, planIds, hasExt, cntFs, idxFs, clnFs, ovlFs, List.contains_cons, List.contains_nil, List.any_cons, List.any_nil, Nat.reduceBEq, setC, List.length_set, decide_eq_true_eq, decide_eq_false_iff_not, true_implies, false_implies, forall_const, reduceCtorEq, eq_self, Int.natCast_nonneg, Int.toNat_natCast, Int.ofNat_lt, D.int.injEq, Option.some.injEq, Nat.zero_add, Nat.add_zero, bne_iff_ne, bne_eq_false_iff_eq, beq_iff_eq, beq_eq_false_iff_ne, gt_iff_lt, ne_eq, not_true_eq_false, not_false_eq_true, planIds, hasExt, cntFs, idxFs, clnFs, ovlFs, List.contains_cons, List.contains_nil, List.any_cons, List.any_nil, Nat.reduceBEq, Nat.reduceMul, Nat.reduceAdd, ↓reduceIte, hal, h0, h1, h2, h3, hTq, w1, w2, w3, w4, w5, g8, g50', ge_iff_le, c4, b4, Tryd.f81]
      exact ⟨u4, _, rfl, by omega, by omega, r4⟩
    · simp (maxSteps := 1000000) (disch := omega) only [push_cast, ↓wc_seq, ↓wc_block, ↓wc_scope, ↓wc_condL, ↓wc_region, ↓wr_cons, ↓wr_consgL, ↓wr_nil, ↓wo_pickL, ↓wo_callf, ↓wc_exit, ↓wc_ret, ↓wc_skip, ↓wc_wl, wo_some, wo_none, wo_ite, opQ_eq, seqQ_normal, seqQ_exit, seqQ_ret, blockQ_normal, blockQ_exit, blockQ_ret, iterQ_normal, iterQ_exit, iterQ_ret, retQ_normal, retQ_ret, retQ_exit, pickC_true, pickC_false, pickO_true, pickO_false, gstep_tt, gstep_ff, gstep_tf, gstep_ft, gstep_skip, int_bne, int_beq, decide_not, Nat.reduceAdd, Nat.reduceMul, Nat.reduceSub, Nat.reducePow, Nat.reduceLT, Nat.reduceLeDiff, Nat.reduceEqDiff, Int.reduceToNat, Int.reduceAdd, Int.reduceSub, Int.reduceNeg, Int.reduceMul, Int.reduceLT, Int.reduceLE, Int.reduceEq, le_max, ↓wo_build, ↓wo_buildSlice, evParts, ↓reduceIte, planIds, hasExt, cntFs, idxFs, clnFs, ovlFs, List.contains_cons, List.contains_nil, List.any_cons, List.any_nil, Nat.reduceBEq, setC, List.length_set, decide_eq_true_eq, decide_eq_false_iff_not, true_implies, false_implies, forall_const, reduceCtorEq, eq_self, Int.natCast_nonneg, Int.toNat_natCast, Int.ofNat_lt, D.int.injEq, Option.some.injEq, Nat.zero_add, Nat.add_zero, bne_iff_ne, bne_eq_false_iff_eq, beq_iff_eq, beq_eq_false_iff_ne, gt_iff_lt, ne_eq, not_true_eq_false, not_false_eq_true, planIds, hasExt, cntFs, idxFs, clnFs, ovlFs, List.contains_cons, List.contains_nil, List.any_cons, List.any_nil, Nat.reduceBEq, Nat.reduceMul, Nat.reduceAdd, ↓reduceIte, hal, h0, h1, h2, h3, hTq, w1, w2, w3, w4, w5, g8, g50', ge_iff_le, c4, b4, g1, g2, Tryd.f81]
      exact ⟨u4, _, rfl, by omega, by omega, r4⟩
end Srt
end Go.Proofs.YtgomkmamgflbeaaDoor.Dm
