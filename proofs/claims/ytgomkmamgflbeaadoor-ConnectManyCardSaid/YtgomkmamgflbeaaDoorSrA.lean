/-
  The machine at slices.SortFunc: rows as arrays, elements that are compared, insertion sort and reversal.
  The machine at slices.SortFunc: heap sort and reversal.
-/
import Derived.Test.YtgomkmamgflbeaaDoorGw
import Derived.Test.YtgomkmamgflbeaaDoorWs
import Derived.Test.YtgomkmamgflbeaaDoorTxE
import Derived.Sort.AssemblyPlain
namespace Go.Proofs.YtgomkmamgflbeaaDoor.Dm
open Go Gw
set_option linter.unusedSimpArgs false

namespace Srt
variable {α : Type} {S0 T : List Ob} {k : Nat} {val : α → D} {d : Array α} {cf : D} {c : α → α → Int}
def rowS (val : α → D) (d : Array α) : List (List D) := d.toList.map fun x => [val x]
/-- A store whose row k holds the array; all else lies there still. -/
structure R (S0 : List Ob) (k : Nat) (val : α → D) (d : Array α) (T : List Ob) : Prop where
  row : T[k]? = some (.row 1 (rowS val d))
  old : ∀ j o, j ≠ k → S0[j]? = some o → T[j]? = some o
  len : S0.length ≤ T.length
def lt (c : α → α → Int) (x y : α) : Bool := decide (c x y < 0)
/-- The comparison, at data of such a store. -/
def CmpOk (n0 : Nat) (S0 : List Ob) (k : Nat) (val : α → D) (cf : D) (c : α → α → Int) : Prop :=
  ∀ n, n0 ≤ n → ∀ (d : Array α) T, R S0 k val d T → ∀ st x y, callV E (dcall E n) st T cf [val x, val y] = some (.int .i64 (c x y), T)
theorem row_set {i : Nat} {y : α} : (rowS val d).set i [val y] = rowS val (d.setIfInBounds i y) := by
  unfold rowS
  rw [Array.toList_setIfInBounds, List.map_set]
theorem R.put (h : R S0 k val d T) {d' : Array α} : R S0 k val d' (T.set k (.row 1 (rowS val d'))) where
  row := by rw [List.getElem?_set_self ((List.getElem?_eq_some_iff.1 h.row).1)]
  old := fun j o hj ho => by rw [List.getElem?_set_ne (Ne.symm hj)]; exact h.old j o hj ho
  len := by rw [List.length_set]; exact h.len
theorem R.push (h : R S0 k val d T) (o : Ob) : R S0 k val d (T ++ [o]) where
  row := get_old h.row
  old := fun j o hj ho => get_old (h.old j o hj ho)
  len := by rw [List.length_append]; exact Nat.le_trans h.len (Nat.le_add_right _ _)
theorem R.lt (h : R S0 k val d T) : k < T.length := (List.getElem?_eq_some_iff.1 h.row).1
theorem sz_el : sizeT Tryd.prog 54 = some 1 := by kernel_rfl
theorem agg_el : aggT Tryd.prog 54 = some false := by kernel_rfl
theorem cells_one {x : D} (h : x.one = true) : x.cells = [x] := by
  cases x <;> first | rfl | cases h
theorem pure_own {kk n : Nat} {x : Bool} {l : List D} : pureL (.os kk 0 n x :: l) = false := by simp [pureL_cons, D.pure]
variable [Inhabited α]
theorem bang {i : Nat} (hi : i < d.size) : d[i]? = some d[i]! := by simp [hi]
theorem row_at {i : Nat} (hi : i < d.size) : (rowS val d)[i]? = some [val d[i]!] := by
  unfold rowS
  rw [List.getElem?_map, Array.getElem?_toList, bang hi]; rfl
theorem wc_asc {E : Env} {call : Call} {n : Nat} {x y z : Code} {a : List D} {S : List Ob} {Q : PostX} : WC (codeD E call n (.seq x (.seq y z)) a S) Q = WC (codeD E call n (.seq (.seq x y) z) a S) Q := by
  rw [wc_seq, wc_seq, wc_seq]
  congr 1
  funext r b U
  cases r
  · simp only [seqQ, wc_seq]
  · rfl
  · rfl
theorem swp_size {i j : Nat} : (Sort.swp d i j).size = d.size := by simp [Sort.swp]
theorem insInner_size {p : α → α → Bool} {a : Nat} : ∀ {j : Nat} {d : Array α}, (Sort.insInner p a j d).size = d.size
  | 0, d => rfl
  | j + 1, d => by
    rw [Sort.insInner]
    split
    · rw [insInner_size, swp_size]
    · rfl
set_option maxHeartbeats 4000000 in
set_option maxRecDepth 100000 in
theorem ins_d {n n0 lo hi : Nat} {x : Bool} (hv : ∀ x, (val x).one = true) (hC : CmpOk n0 S0 k val cf c) (hn : n0 + d.size + 2 ≤ n) (hab : lo ≤ hi) (hb : hi ≤ d.size) (hz : d.size ≤ 100000) (h : R S0 k val d T) :
    WO (dcall E (n + 1) 78 [.os k 0 d.size x, .int .i64 lo, .int .i64 hi, cf] T) fun _ T' => R S0 k val (Sort.insertionSort (lt c) d lo hi) T' := by
  refine wo_dcall Tryd.func78 rfl (by decide) rfl 53 rfl (fun a hal ha => ?_)
  have h0 : a[0]? = some (.os k 0 d.size x) := ha 0 (by simp)
  have h1 : a[1]? = some (.int .i64 lo) := ha 1 (by simp)
  have h2 : a[2]? = some (.int .i64 hi) := ha 2 (by simp)
  have h3 : a[3]? = some (cf) := ha 3 (by simp)
  clear ha
  simp (maxSteps := 1000000) (disch := omega) only [push_cast, ↓wc_seq, ↓wc_block, ↓wc_scope, ↓wc_condL, ↓wc_region, ↓wr_cons, ↓wr_consgL, ↓wr_nil, ↓wo_pickL, ↓wo_callf, ↓wc_exit, ↓wc_ret, ↓wc_skip, ↓wc_wl, wo_some, wo_none, wo_ite, opQ_eq, seqQ_normal, seqQ_exit, seqQ_ret, blockQ_normal, blockQ_exit, blockQ_ret, iterQ_normal, iterQ_exit, iterQ_ret, retQ_normal, retQ_ret, retQ_exit, pickC_true, pickC_false, pickO_true, pickO_false, gstep_tt, gstep_ff, gstep_tf, gstep_ft, gstep_skip, int_bne, int_beq, decide_not, Nat.reduceAdd, Nat.reduceMul, Nat.reduceSub, Nat.reducePow, Nat.reduceLT, Nat.reduceLeDiff, Nat.reduceEqDiff, Int.reduceToNat, Int.reduceAdd, Int.reduceSub, Int.reduceNeg, Int.reduceMul, Int.reduceLT, Int.reduceLE, Int.reduceEq, le_max, ↓wo_build, ↓wo_buildSlice, evParts, ↓reduceIte, planIds, hasExt, cntFs, idxFs, clnFs, ovlFs, List.contains_cons, List.contains_nil, List.any_cons, List.any_nil, Nat.reduceBEq, setC, List.length_set, decide_eq_true_eq, decide_eq_false_iff_not, true_implies, false_implies, forall_const, reduceCtorEq, eq_self, Int.natCast_nonneg, Int.toNat_natCast, Int.ofNat_lt, D.int.injEq, Option.some.injEq, Nat.zero_add, Nat.add_zero, bne_iff_ne, bne_eq_false_iff_eq, beq_iff_eq, beq_eq_false_iff_ne, gt_iff_lt, ne_eq, not_true_eq_false, not_false_eq_true, planIds, hasExt, cntFs, idxFs, clnFs, ovlFs, List.contains_cons, List.contains_nil, List.any_cons, List.any_nil, Nat.reduceBEq, Nat.reduceMul, Nat.reduceAdd, ↓reduceIte, hal, h0, h1, h2, h3, wrap_ok]
  refine wl_loop (fun i a T' => ∃ (d' : Array α) (m : Nat), a.length = 53 ∧ a[0]? = some (.os k 0 d.size x) ∧ a[1]? = some (.int .i64 lo) ∧ a[2]? = some (.int .i64 hi) ∧ a[3]? = some (cf) ∧ a[8]? = some (.int .i64 m) ∧ m = lo + 1 + i ∧ d'.size = d.size ∧ R S0 k val d' T' ∧ Sort.insertionSort (lt c) d lo hi = Sort.insOuter (lt c) lo hi m d') d.size ?_ (by omega) ?_
  · refine ⟨d, lo + 1, ?_⟩
    simp (maxSteps := 1000000) (disch := omega) only [push_cast, ↓wc_seq, ↓wc_block, ↓wc_scope, ↓wc_condL, ↓wc_region, ↓wr_cons, ↓wr_consgL, ↓wr_nil, ↓wo_pickL, ↓wo_callf, ↓wc_exit, ↓wc_ret, ↓wc_skip, ↓wc_wl, wo_some, wo_none, wo_ite, opQ_eq, seqQ_normal, seqQ_exit, seqQ_ret, blockQ_normal, blockQ_exit, blockQ_ret, iterQ_normal, iterQ_exit, iterQ_ret, retQ_normal, retQ_ret, retQ_exit, pickC_true, pickC_false, pickO_true, pickO_false, gstep_tt, gstep_ff, gstep_tf, gstep_ft, gstep_skip, int_bne, int_beq, decide_not, Nat.reduceAdd, Nat.reduceMul, Nat.reduceSub, Nat.reducePow, Nat.reduceLT, Nat.reduceLeDiff, Nat.reduceEqDiff, Int.reduceToNat, Int.reduceAdd, Int.reduceSub, Int.reduceNeg, Int.reduceMul, Int.reduceLT, Int.reduceLE, Int.reduceEq, le_max, ↓wo_build, ↓wo_buildSlice, evParts, ↓reduceIte, planIds, hasExt, cntFs, idxFs, clnFs, ovlFs, List.contains_cons, List.contains_nil, List.any_cons, List.any_nil, Nat.reduceBEq, setC, List.length_set, decide_eq_true_eq, decide_eq_false_iff_not, true_implies, false_implies, forall_const, reduceCtorEq, eq_self, Int.natCast_nonneg, Int.toNat_natCast, Int.ofNat_lt, D.int.injEq, Option.some.injEq, Nat.zero_add, Nat.add_zero, bne_iff_ne, bne_eq_false_iff_eq, beq_iff_eq, beq_eq_false_iff_ne, gt_iff_lt, ne_eq, not_true_eq_false, not_false_eq_true, planIds, hasExt, cntFs, idxFs, clnFs, ovlFs, List.contains_cons, List.contains_nil, List.any_cons, List.any_nil, Nat.reduceBEq, Nat.reduceMul, Nat.reduceAdd, ↓reduceIte, hal, h0, h1, h2, h3, Int.natCast_add, Int.natCast_one]
    exact ⟨h, rfl⟩
  clear hal h0 h1 h2 h3 a
  rintro i a T' hi' ⟨d', m, hal, h0, h1, h2, h3, h8, hm, hs, hr, hv'⟩
  by_cases g : m < hi
  case neg =>
    rw [Sort.insOuter, if_neg g] at hv'
    simp (maxSteps := 1000000) (disch := omega) only [push_cast, ↓wc_seq, ↓wc_block, ↓wc_scope, ↓wc_condL, ↓wc_region, ↓wr_cons, ↓wr_consgL, ↓wr_nil, ↓wo_pickL, ↓wo_callf, ↓wc_exit, ↓wc_ret, ↓wc_skip, ↓wc_wl, wo_some, wo_none, wo_ite, opQ_eq, seqQ_normal, seqQ_exit, seqQ_ret, blockQ_normal, blockQ_exit, blockQ_ret, iterQ_normal, iterQ_exit, iterQ_ret, retQ_normal, retQ_ret, retQ_exit, pickC_true, pickC_false, pickO_true, pickO_false, gstep_tt, gstep_ff, gstep_tf, gstep_ft, gstep_skip, int_bne, int_beq, decide_not, Nat.reduceAdd, Nat.reduceMul, Nat.reduceSub, Nat.reducePow, Nat.reduceLT, Nat.reduceLeDiff, Nat.reduceEqDiff, Int.reduceToNat, Int.reduceAdd, Int.reduceSub, Int.reduceNeg, Int.reduceMul, Int.reduceLT, Int.reduceLE, Int.reduceEq, le_max, ↓wo_build, ↓wo_buildSlice, evParts, ↓reduceIte, planIds, hasExt, cntFs, idxFs, clnFs, ovlFs, List.contains_cons, List.contains_nil, List.any_cons, List.any_nil, Nat.reduceBEq, setC, List.length_set, decide_eq_true_eq, decide_eq_false_iff_not, true_implies, false_implies, forall_const, reduceCtorEq, eq_self, Int.natCast_nonneg, Int.toNat_natCast, Int.ofNat_lt, D.int.injEq, Option.some.injEq, Nat.zero_add, Nat.add_zero, bne_iff_ne, bne_eq_false_iff_eq, beq_iff_eq, beq_eq_false_iff_ne, gt_iff_lt, ne_eq, not_true_eq_false, not_false_eq_true, planIds, hasExt, cntFs, idxFs, clnFs, ovlFs, List.contains_cons, List.contains_nil, List.any_cons, List.any_nil, Nat.reduceBEq, Nat.reduceMul, Nat.reduceAdd, ↓reduceIte, hal, h0, h1, h2, h3, h8, g, Tryd.f78]
    rw [hv']; exact hr
  rw [Sort.insOuter, if_pos g] at hv'
  simp (maxSteps := 1000000) (disch := omega) only [push_cast, ↓wc_seq, ↓wc_block, ↓wc_scope, ↓wc_condL, ↓wc_region, ↓wr_cons, ↓wr_consgL, ↓wr_nil, ↓wo_pickL, ↓wo_callf, ↓wc_exit, ↓wc_ret, ↓wc_skip, ↓wc_wl, wo_some, wo_none, wo_ite, opQ_eq, seqQ_normal, seqQ_exit, seqQ_ret, blockQ_normal, blockQ_exit, blockQ_ret, iterQ_normal, iterQ_exit, iterQ_ret, retQ_normal, retQ_ret, retQ_exit, pickC_true, pickC_false, pickO_true, pickO_false, gstep_tt, gstep_ff, gstep_tf, gstep_ft, gstep_skip, int_bne, int_beq, decide_not, Nat.reduceAdd, Nat.reduceMul, Nat.reduceSub, Nat.reducePow, Nat.reduceLT, Nat.reduceLeDiff, Nat.reduceEqDiff, Int.reduceToNat, Int.reduceAdd, Int.reduceSub, Int.reduceNeg, Int.reduceMul, Int.reduceLT, Int.reduceLE, Int.reduceEq, le_max, ↓wo_build, ↓wo_buildSlice, evParts, ↓reduceIte, planIds, hasExt, cntFs, idxFs, clnFs, ovlFs, List.contains_cons, List.contains_nil, List.any_cons, List.any_nil, Nat.reduceBEq, setC, List.length_set, decide_eq_true_eq, decide_eq_false_iff_not, true_implies, false_implies, forall_const, reduceCtorEq, eq_self, Int.natCast_nonneg, Int.toNat_natCast, Int.ofNat_lt, D.int.injEq, Option.some.injEq, Nat.zero_add, Nat.add_zero, bne_iff_ne, bne_eq_false_iff_eq, beq_iff_eq, beq_eq_false_iff_ne, gt_iff_lt, ne_eq, not_true_eq_false, not_false_eq_true, planIds, hasExt, cntFs, idxFs, clnFs, ovlFs, List.contains_cons, List.contains_nil, List.any_cons, List.any_nil, Nat.reduceBEq, Nat.reduceMul, Nat.reduceAdd, ↓reduceIte, hal, h0, h1, h2, h3, h8, g, wc_wl]
  refine wl_loop (fun i' a T' => ∃ (d'' : Array α) (j : Nat), a.length = 53 ∧ a[0]? = some (.os k 0 d.size x) ∧ a[1]? = some (.int .i64 lo) ∧ a[2]? = some (.int .i64 hi) ∧ a[3]? = some (cf) ∧ a[8]? = some (.int .i64 m) ∧ a[9]? = some (.int .i64 j) ∧ j + i' = m ∧ d''.size = d.size ∧ R S0 k val d'' T' ∧ Sort.insInner (lt c) lo m d' = Sort.insInner (lt c) lo j d'') m ?_ (by omega) ?_
  · refine ⟨d', m, ?_⟩
    simp (maxSteps := 1000000) (disch := omega) only [push_cast, ↓wc_seq, ↓wc_block, ↓wc_scope, ↓wc_condL, ↓wc_region, ↓wr_cons, ↓wr_consgL, ↓wr_nil, ↓wo_pickL, ↓wo_callf, ↓wc_exit, ↓wc_ret, ↓wc_skip, ↓wc_wl, wo_some, wo_none, wo_ite, opQ_eq, seqQ_normal, seqQ_exit, seqQ_ret, blockQ_normal, blockQ_exit, blockQ_ret, iterQ_normal, iterQ_exit, iterQ_ret, retQ_normal, retQ_ret, retQ_exit, pickC_true, pickC_false, pickO_true, pickO_false, gstep_tt, gstep_ff, gstep_tf, gstep_ft, gstep_skip, int_bne, int_beq, decide_not, Nat.reduceAdd, Nat.reduceMul, Nat.reduceSub, Nat.reducePow, Nat.reduceLT, Nat.reduceLeDiff, Nat.reduceEqDiff, Int.reduceToNat, Int.reduceAdd, Int.reduceSub, Int.reduceNeg, Int.reduceMul, Int.reduceLT, Int.reduceLE, Int.reduceEq, le_max, ↓wo_build, ↓wo_buildSlice, evParts, ↓reduceIte, planIds, hasExt, cntFs, idxFs, clnFs, ovlFs, List.contains_cons, List.contains_nil, List.any_cons, List.any_nil, Nat.reduceBEq, setC, List.length_set, decide_eq_true_eq, decide_eq_false_iff_not, true_implies, false_implies, forall_const, reduceCtorEq, eq_self, Int.natCast_nonneg, Int.toNat_natCast, Int.ofNat_lt, D.int.injEq, Option.some.injEq, Nat.zero_add, Nat.add_zero, bne_iff_ne, bne_eq_false_iff_eq, beq_iff_eq, beq_eq_false_iff_ne, gt_iff_lt, ne_eq, not_true_eq_false, not_false_eq_true, planIds, hasExt, cntFs, idxFs, clnFs, ovlFs, List.contains_cons, List.contains_nil, List.any_cons, List.any_nil, Nat.reduceBEq, Nat.reduceMul, Nat.reduceAdd, ↓reduceIte, hal, h0, h1, h2, h3, h8]
    exact ⟨hs, hr⟩
  clear hal h0 h1 h2 h3 h8 a
  clear hr
  rintro i' a T' hi'' ⟨d'', j, hal, h0, h1, h2, h3, h8, h9, hj, hs', hr, hq⟩
  have done : ∀ e, Sort.insInner (lt c) lo j d'' = d'' → e = m + 1 → e = lo + 1 + (i + 1) ∧ d''.size = d.size ∧ R S0 k val d'' T' ∧ Sort.insertionSort (lt c) d lo hi = Sort.insOuter (lt c) lo hi e d'' := fun e he h1 => by
    subst h1
    rw [hq, he] at hv'
    exact ⟨by omega, hs', hr, hv'⟩
  by_cases g1 : lo < j
  case neg =>
    have he : Sort.insInner (lt c) lo j d'' = d'' := by
      cases j with
      | zero => rfl
      | succ j => rw [Sort.insInner, if_neg (by simp; intro; omega)]
    simp (maxSteps := 1000000) (disch := omega) only [push_cast, ↓wc_seq, ↓wc_block, ↓wc_scope, ↓wc_condL, ↓wc_region, ↓wr_cons, ↓wr_consgL, ↓wr_nil, ↓wo_pickL, ↓wo_callf, ↓wc_exit, ↓wc_ret, ↓wc_skip, ↓wc_wl, wo_some, wo_none, wo_ite, opQ_eq, seqQ_normal, seqQ_exit, seqQ_ret, blockQ_normal, blockQ_exit, blockQ_ret, iterQ_normal, iterQ_exit, iterQ_ret, retQ_normal, retQ_ret, retQ_exit, pickC_true, pickC_false, pickO_true, pickO_false, gstep_tt, gstep_ff, gstep_tf, gstep_ft, gstep_skip, int_bne, int_beq, decide_not, Nat.reduceAdd, Nat.reduceMul, Nat.reduceSub, Nat.reducePow, Nat.reduceLT, Nat.reduceLeDiff, Nat.reduceEqDiff, Int.reduceToNat, Int.reduceAdd, Int.reduceSub, Int.reduceNeg, Int.reduceMul, Int.reduceLT, Int.reduceLE, Int.reduceEq, le_max, ↓wo_build, ↓wo_buildSlice, evParts, ↓reduceIte, planIds, hasExt, cntFs, idxFs, clnFs, ovlFs, List.contains_cons, List.contains_nil, List.any_cons, List.any_nil, Nat.reduceBEq, setC, List.length_set, decide_eq_true_eq, decide_eq_false_iff_not, true_implies, false_implies, forall_const, reduceCtorEq, eq_self, Int.natCast_nonneg, Int.toNat_natCast, Int.ofNat_lt, D.int.injEq, Option.some.injEq, Nat.zero_add, Nat.add_zero, bne_iff_ne, bne_eq_false_iff_eq, beq_iff_eq, beq_eq_false_iff_ne, gt_iff_lt, ne_eq, not_true_eq_false, not_false_eq_true, planIds, hasExt, cntFs, idxFs, clnFs, ovlFs, List.contains_cons, List.contains_nil, List.any_cons, List.any_nil, Nat.reduceBEq, Nat.reduceMul, Nat.reduceAdd, ↓reduceIte, hal, h0, h1, h2, h3, h8, h9, g1, gt_iff_lt, wrap_ok]
    refine ⟨by omega, d'', m + 1, ?_, ?_⟩
    · simp only [Int.natCast_add, Int.natCast_one]
    · exact done _ he rfl
  obtain ⟨j', hj'⟩ : ∃ j', j = j' + 1 := ⟨j - 1, by omega⟩
  have hw : IntKind.i64.wrap ((j : Int) - 1) = (j' : Int) := by rw [wrap_ok (by omega) (by omega)]; omega
  have hjl : j < d.size := by omega
  have hjl' : j' < d.size := by omega
  have l1 := row_at (val := val) (d := d'') (i := j) (by omega)
  have l2 := row_at (val := val) (d := d'') (i := j') (by omega)
  have l3 := row_at (val := val) (d := d''.setIfInBounds j d''[j']!) (i := j') (by simp; omega)
  have cc := fun st => hC n (by omega) d'' T' hr st d''[j]! d''[j']!
  by_cases e1 : c d''[j]! d''[j']! < 0
  case neg =>
    have he : Sort.insInner (lt c) lo j d'' = d'' := by
      subst hj'
      rw [Sort.insInner, if_neg (by simp [lt]; intro; omega)]
    simp (maxSteps := 1000000) (disch := omega) only [push_cast, ↓wc_seq, ↓wc_block, ↓wc_scope, ↓wc_condL, ↓wc_region, ↓wr_cons, ↓wr_consgL, ↓wr_nil, ↓wo_pickL, ↓wo_callf, ↓wc_exit, ↓wc_ret, ↓wc_skip, ↓wc_wl, wo_some, wo_none, wo_ite, opQ_eq, seqQ_normal, seqQ_exit, seqQ_ret, blockQ_normal, blockQ_exit, blockQ_ret, iterQ_normal, iterQ_exit, iterQ_ret, retQ_normal, retQ_ret, retQ_exit, pickC_true, pickC_false, pickO_true, pickO_false, gstep_tt, gstep_ff, gstep_tf, gstep_ft, gstep_skip, int_bne, int_beq, decide_not, Nat.reduceAdd, Nat.reduceMul, Nat.reduceSub, Nat.reducePow, Nat.reduceLT, Nat.reduceLeDiff, Nat.reduceEqDiff, Int.reduceToNat, Int.reduceAdd, Int.reduceSub, Int.reduceNeg, Int.reduceMul, Int.reduceLT, Int.reduceLE, Int.reduceEq, le_max, ↓wo_build, ↓wo_buildSlice, evParts, ↓reduceIte, planIds, hasExt, cntFs, idxFs, clnFs, ovlFs, List.contains_cons, List.contains_nil, List.any_cons, List.any_nil, Nat.reduceBEq, setC, List.length_set, decide_eq_true_eq, decide_eq_false_iff_not, true_implies, false_implies, forall_const, reduceCtorEq, eq_self, Int.natCast_nonneg, Int.toNat_natCast, Int.ofNat_lt, D.int.injEq, Option.some.injEq, Nat.zero_add, Nat.add_zero, bne_iff_ne, bne_eq_false_iff_eq, beq_iff_eq, beq_eq_false_iff_ne, gt_iff_lt, ne_eq, not_true_eq_false, not_false_eq_true, planIds, hasExt, cntFs, idxFs, clnFs, ovlFs, List.contains_cons, List.contains_nil, List.any_cons, List.any_nil, Nat.reduceBEq, Nat.reduceMul, Nat.reduceAdd, ↓reduceIte, hal, h0, h1, h2, h3, h8, h9, g1, gt_iff_lt, wrap_ok, hr.row, sz_el, hw, hjl, hjl', l1, l2, ↓wo_callv, cc, e1]
    refine ⟨by omega, d'', m + 1, ?_, ?_⟩
    · simp only [Int.natCast_add, Int.natCast_one]
    · exact done _ he rfl
  have he : Sort.insInner (lt c) lo j d'' = Sort.insInner (lt c) lo j' (Sort.swp d'' j j') := by
    subst hj'
    rw [Sort.insInner, if_pos (by simp [lt]; omega)]
  have hkl := hr.lt
  have cv : ∀ y, (val y).cells = [val y] := fun y => cells_one (hv y)
  simp only [D.cells] at cv
  have ov := hv
  simp only [D.one] at ov
  simp (maxSteps := 1000000) (disch := omega) only [push_cast, ↓wc_seq, ↓wc_block, ↓wc_scope, ↓wc_condL, ↓wc_region, ↓wr_cons, ↓wr_consgL, ↓wr_nil, ↓wo_pickL, ↓wo_callf, ↓wc_exit, ↓wc_ret, ↓wc_skip, ↓wc_wl, wo_some, wo_none, wo_ite, opQ_eq, seqQ_normal, seqQ_exit, seqQ_ret, blockQ_normal, blockQ_exit, blockQ_ret, iterQ_normal, iterQ_exit, iterQ_ret, retQ_normal, retQ_ret, retQ_exit, pickC_true, pickC_false, pickO_true, pickO_false, gstep_tt, gstep_ff, gstep_tf, gstep_ft, gstep_skip, int_bne, int_beq, decide_not, Nat.reduceAdd, Nat.reduceMul, Nat.reduceSub, Nat.reducePow, Nat.reduceLT, Nat.reduceLeDiff, Nat.reduceEqDiff, Int.reduceToNat, Int.reduceAdd, Int.reduceSub, Int.reduceNeg, Int.reduceMul, Int.reduceLT, Int.reduceLE, Int.reduceEq, le_max, ↓wo_build, ↓wo_buildSlice, evParts, ↓reduceIte, planIds, hasExt, cntFs, idxFs, clnFs, ovlFs, List.contains_cons, List.contains_nil, List.any_cons, List.any_nil, Nat.reduceBEq, setC, List.length_set, decide_eq_true_eq, decide_eq_false_iff_not, true_implies, false_implies, forall_const, reduceCtorEq, eq_self, Int.natCast_nonneg, Int.toNat_natCast, Int.ofNat_lt, D.int.injEq, Option.some.injEq, Nat.zero_add, Nat.add_zero, bne_iff_ne, bne_eq_false_iff_eq, beq_iff_eq, beq_eq_false_iff_ne, gt_iff_lt, ne_eq, not_true_eq_false, not_false_eq_true, planIds, hasExt, cntFs, idxFs, clnFs, ovlFs, List.contains_cons, List.contains_nil, List.any_cons, List.any_nil, Nat.reduceBEq, Nat.reduceMul, Nat.reduceAdd, ↓reduceIte, hal, h0, h1, h2, h3, h8, h9, g1, gt_iff_lt, wrap_ok, hr.row, sz_el, hw, hjl, hjl', l1, l2, ↓wo_callv, cc, e1, l3, hkl, cv, ov, row_set, List.set_set]
  exact ⟨by omega, Sort.swp d'' j j', j', rfl, by omega, by rw [swp_size]; exact hs', hr.put, by rw [hq, he]⟩
end Srt

namespace Srt
variable {α : Type} {S0 T : List Ob} {k : Nat} {val : α → D} {d : Array α} {cf : D} {c : α → α → Int}
variable [Inhabited α]
set_option maxHeartbeats 4000000 in
set_option maxRecDepth 100000 in
theorem sift_d {n n0 lo hi first : Nat} {x : Bool} (hv : ∀ x, (val x).one = true) (hC : CmpOk n0 S0 k val cf c) (hn : n0 + d.size + 2 ≤ n) (hb : first + hi ≤ d.size) (hz : d.size ≤ 100000) (hlo : lo ≤ 100000) (h : R S0 k val d T) :
    WO (dcall E (n + 1) 92 [.os k 0 d.size x, .int .i64 lo, .int .i64 hi, .int .i64 first, cf] T) fun _ T' => R S0 k val (Sort.siftDown (lt c) hi first lo d) T' ∧ (Sort.siftDown (lt c) hi first lo d).size = d.size := by
  refine wo_dcall Tryd.func92 rfl (by decide) rfl 82 rfl (fun a hal ha => ?_)
  have h0 : a[0]? = some (.os k 0 d.size x) := ha 0 (by simp)
  have h1 : a[1]? = some (.int .i64 lo) := ha 1 (by simp)
  have h2 : a[2]? = some (.int .i64 hi) := ha 2 (by simp)
  have h3 : a[3]? = some (.int .i64 first) := ha 3 (by simp)
  have h4 : a[4]? = some (cf) := ha 4 (by simp)
  clear ha
  simp (maxSteps := 1000000) (disch := omega) only [push_cast, ↓wc_seq, ↓wc_block, ↓wc_scope, ↓wc_condL, ↓wc_region, ↓wr_cons, ↓wr_consgL, ↓wr_nil, ↓wo_pickL, ↓wo_callf, ↓wc_exit, ↓wc_ret, ↓wc_skip, ↓wc_wl, wo_some, wo_none, wo_ite, opQ_eq, seqQ_normal, seqQ_exit, seqQ_ret, blockQ_normal, blockQ_exit, blockQ_ret, iterQ_normal, iterQ_exit, iterQ_ret, retQ_normal, retQ_ret, retQ_exit, pickC_true, pickC_false, pickO_true, pickO_false, gstep_tt, gstep_ff, gstep_tf, gstep_ft, gstep_skip, int_bne, int_beq, decide_not, Nat.reduceAdd, Nat.reduceMul, Nat.reduceSub, Nat.reducePow, Nat.reduceLT, Nat.reduceLeDiff, Nat.reduceEqDiff, Int.reduceToNat, Int.reduceAdd, Int.reduceSub, Int.reduceNeg, Int.reduceMul, Int.reduceLT, Int.reduceLE, Int.reduceEq, le_max, ↓wo_build, ↓wo_buildSlice, evParts, ↓reduceIte, planIds, hasExt, cntFs, idxFs, clnFs, ovlFs, List.contains_cons, List.contains_nil, List.any_cons, List.any_nil, Nat.reduceBEq, setC, List.length_set, decide_eq_true_eq, decide_eq_false_iff_not, true_implies, false_implies, forall_const, reduceCtorEq, eq_self, Int.natCast_nonneg, Int.toNat_natCast, Int.ofNat_lt, D.int.injEq, Option.some.injEq, Nat.zero_add, Nat.add_zero, bne_iff_ne, bne_eq_false_iff_eq, beq_iff_eq, beq_eq_false_iff_ne, gt_iff_lt, ne_eq, not_true_eq_false, not_false_eq_true, planIds, hasExt, cntFs, idxFs, clnFs, ovlFs, List.contains_cons, List.contains_nil, List.any_cons, List.any_nil, Nat.reduceBEq, Nat.reduceMul, Nat.reduceAdd, ↓reduceIte, hal, h0, h1, h2, h3, h4]
  refine wl_loop (fun i a T' => ∃ (d' : Array α) (rt : Nat), a.length = 82 ∧ a[0]? = some (.os k 0 d.size x) ∧ a[2]? = some (.int .i64 hi) ∧ a[3]? = some (.int .i64 first) ∧ a[4]? = some (cf) ∧ a[10]? = some (.int .i64 rt) ∧ (i ≤ rt ∧ (i = 0 ∨ rt < hi) ∧ rt ≤ 100000) ∧ d'.size = d.size ∧ R S0 k val d' T' ∧ Sort.siftDown (lt c) hi first lo d = Sort.siftDown (lt c) hi first rt d') d.size ?_ (by omega) ?_
  · refine ⟨d, lo, ?_⟩
    simp (maxSteps := 1000000) (disch := omega) only [push_cast, ↓wc_seq, ↓wc_block, ↓wc_scope, ↓wc_condL, ↓wc_region, ↓wr_cons, ↓wr_consgL, ↓wr_nil, ↓wo_pickL, ↓wo_callf, ↓wc_exit, ↓wc_ret, ↓wc_skip, ↓wc_wl, wo_some, wo_none, wo_ite, opQ_eq, seqQ_normal, seqQ_exit, seqQ_ret, blockQ_normal, blockQ_exit, blockQ_ret, iterQ_normal, iterQ_exit, iterQ_ret, retQ_normal, retQ_ret, retQ_exit, pickC_true, pickC_false, pickO_true, pickO_false, gstep_tt, gstep_ff, gstep_tf, gstep_ft, gstep_skip, int_bne, int_beq, decide_not, Nat.reduceAdd, Nat.reduceMul, Nat.reduceSub, Nat.reducePow, Nat.reduceLT, Nat.reduceLeDiff, Nat.reduceEqDiff, Int.reduceToNat, Int.reduceAdd, Int.reduceSub, Int.reduceNeg, Int.reduceMul, Int.reduceLT, Int.reduceLE, Int.reduceEq, le_max, ↓wo_build, ↓wo_buildSlice, evParts, ↓reduceIte, planIds, hasExt, cntFs, idxFs, clnFs, ovlFs, List.contains_cons, List.contains_nil, List.any_cons, List.any_nil, Nat.reduceBEq, setC, List.length_set, decide_eq_true_eq, decide_eq_false_iff_not, true_implies, false_implies, forall_const, reduceCtorEq, eq_self, Int.natCast_nonneg, Int.toNat_natCast, Int.ofNat_lt, D.int.injEq, Option.some.injEq, Nat.zero_add, Nat.add_zero, bne_iff_ne, bne_eq_false_iff_eq, beq_iff_eq, beq_eq_false_iff_ne, gt_iff_lt, ne_eq, not_true_eq_false, not_false_eq_true, planIds, hasExt, cntFs, idxFs, clnFs, ovlFs, List.contains_cons, List.contains_nil, List.any_cons, List.any_nil, Nat.reduceBEq, Nat.reduceMul, Nat.reduceAdd, ↓reduceIte, hal, h0, h1, h2, h3, h4]
    exact ⟨⟨Nat.zero_le _, .inl trivial, hlo⟩, h⟩
  clear hal h0 h1 h2 h3 h4 a
  clear h
  rintro i a T' hi' ⟨d', rt, hal, h0, h2, h3, h4, h10, ⟨hir, hrh, hrt⟩, hs, hr, hq⟩
  have stop : Sort.siftDown (lt c) hi first rt d' = d' → R S0 k val (Sort.siftDown (lt c) hi first lo d) T' ∧ (Sort.siftDown (lt c) hi first lo d).size = d.size := fun e => by
    rw [hq, e]; exact ⟨hr, hs⟩
  rw [wc_block]
  obtain ⟨ch, hch⟩ : ∃ ch, ch = 2 * rt + 1 := ⟨_, rfl⟩
  have w1 : IntKind.i64.wrap (IntKind.i64.wrap (2 * (rt : Int)) + 1) = (ch : Int) := by rw [wrap_ok (x := 2 * (rt : Int)) (by omega) (by omega), wrap_ok (by omega) (by omega)]; omega
  by_cases g : hi ≤ ch
  · have e : Sort.siftDown (lt c) hi first rt d' = d' := by rw [Sort.siftDown, dif_pos (by omega)]
    simp (maxSteps := 1000000) (disch := omega) only [push_cast, ↓wc_seq, ↓wc_block, ↓wc_scope, ↓wc_condL, ↓wc_region, ↓wr_cons, ↓wr_consgL, ↓wr_nil, ↓wo_pickL, ↓wo_callf, ↓wc_exit, ↓wc_ret, ↓wc_skip, ↓wc_wl, wo_some, wo_none, wo_ite, opQ_eq, seqQ_normal, seqQ_exit, seqQ_ret, blockQ_normal, blockQ_exit, blockQ_ret, iterQ_normal, iterQ_exit, iterQ_ret, retQ_normal, retQ_ret, retQ_exit, pickC_true, pickC_false, pickO_true, pickO_false, gstep_tt, gstep_ff, gstep_tf, gstep_ft, gstep_skip, int_bne, int_beq, decide_not, Nat.reduceAdd, Nat.reduceMul, Nat.reduceSub, Nat.reducePow, Nat.reduceLT, Nat.reduceLeDiff, Nat.reduceEqDiff, Int.reduceToNat, Int.reduceAdd, Int.reduceSub, Int.reduceNeg, Int.reduceMul, Int.reduceLT, Int.reduceLE, Int.reduceEq, le_max, ↓wo_build, ↓wo_buildSlice, evParts, ↓reduceIte, planIds, hasExt, cntFs, idxFs, clnFs, ovlFs, List.contains_cons, List.contains_nil, List.any_cons, List.any_nil, Nat.reduceBEq, setC, List.length_set, decide_eq_true_eq, decide_eq_false_iff_not, true_implies, false_implies, forall_const, reduceCtorEq, eq_self, Int.natCast_nonneg, Int.toNat_natCast, Int.ofNat_lt, D.int.injEq, Option.some.injEq, Nat.zero_add, Nat.add_zero, bne_iff_ne, bne_eq_false_iff_eq, beq_iff_eq, beq_eq_false_iff_ne, gt_iff_lt, ne_eq, not_true_eq_false, not_false_eq_true, planIds, hasExt, cntFs, idxFs, clnFs, ovlFs, List.contains_cons, List.contains_nil, List.any_cons, List.any_nil, Nat.reduceBEq, Nat.reduceMul, Nat.reduceAdd, ↓reduceIte, hal, h0, h2, h3, h4, h10, w1, g, ge_iff_le, Int.ofNat_le, Tryd.f92]
    exact stop e
  have hrh' : first + rt < d.size := by omega
  refine wc_scut (fun a T'' => T'' = T' ∧ a.length = 82 ∧ a[0]? = some (.os k 0 d.size x) ∧ a[2]? = some (.int .i64 hi) ∧ a[3]? = some (.int .i64 first) ∧ a[4]? = some (cf) ∧ a[10]? = some (.int .i64 rt) ∧ a[11]? = some (.int .i64 ch)) ?_ ?_
  · simp (maxSteps := 1000000) (disch := omega) only [push_cast, ↓wc_seq, ↓wc_block, ↓wc_scope, ↓wc_condL, ↓wc_region, ↓wr_cons, ↓wr_consgL, ↓wr_nil, ↓wo_pickL, ↓wo_callf, ↓wc_exit, ↓wc_ret, ↓wc_skip, ↓wc_wl, wo_some, wo_none, wo_ite, opQ_eq, seqQ_normal, seqQ_exit, seqQ_ret, blockQ_normal, blockQ_exit, blockQ_ret, iterQ_normal, iterQ_exit, iterQ_ret, retQ_normal, retQ_ret, retQ_exit, pickC_true, pickC_false, pickO_true, pickO_false, gstep_tt, gstep_ff, gstep_tf, gstep_ft, gstep_skip, int_bne, int_beq, decide_not, Nat.reduceAdd, Nat.reduceMul, Nat.reduceSub, Nat.reducePow, Nat.reduceLT, Nat.reduceLeDiff, Nat.reduceEqDiff, Int.reduceToNat, Int.reduceAdd, Int.reduceSub, Int.reduceNeg, Int.reduceMul, Int.reduceLT, Int.reduceLE, Int.reduceEq, le_max, ↓wo_build, ↓wo_buildSlice, evParts, ↓reduceIte, planIds, hasExt, cntFs, idxFs, clnFs, ovlFs, List.contains_cons, List.contains_nil, List.any_cons, List.any_nil, Nat.reduceBEq, setC, List.length_set, decide_eq_true_eq, decide_eq_false_iff_not, true_implies, false_implies, forall_const, reduceCtorEq, eq_self, Int.natCast_nonneg, Int.toNat_natCast, Int.ofNat_lt, D.int.injEq, Option.some.injEq, Nat.zero_add, Nat.add_zero, bne_iff_ne, bne_eq_false_iff_eq, beq_iff_eq, beq_eq_false_iff_ne, gt_iff_lt, ne_eq, not_true_eq_false, not_false_eq_true, planIds, hasExt, cntFs, idxFs, clnFs, ovlFs, List.contains_cons, List.contains_nil, List.any_cons, List.any_nil, Nat.reduceBEq, Nat.reduceMul, Nat.reduceAdd, ↓reduceIte, hal, h0, h2, h3, h4, h10, w1]
  clear hal h0 h2 h3 h4 h10 a
  rintro a T'' ⟨rfl, hal, h0, h2, h3, h4, h10, h11⟩
  refine wc_scut (fun a T => T = T'' ∧ a.length = 82 ∧ a[0]? = some (.os k 0 d.size x) ∧ a[2]? = some (.int .i64 hi) ∧ a[3]? = some (.int .i64 first) ∧ a[4]? = some (cf) ∧ a[10]? = some (.int .i64 rt) ∧ a[11]? = some (.int .i64 ch)) ?_ ?_
  · simp (maxSteps := 1000000) (disch := omega) only [push_cast, ↓wc_seq, ↓wc_block, ↓wc_scope, ↓wc_condL, ↓wc_region, ↓wr_cons, ↓wr_consgL, ↓wr_nil, ↓wo_pickL, ↓wo_callf, ↓wc_exit, ↓wc_ret, ↓wc_skip, ↓wc_wl, wo_some, wo_none, wo_ite, opQ_eq, seqQ_normal, seqQ_exit, seqQ_ret, blockQ_normal, blockQ_exit, blockQ_ret, iterQ_normal, iterQ_exit, iterQ_ret, retQ_normal, retQ_ret, retQ_exit, pickC_true, pickC_false, pickO_true, pickO_false, gstep_tt, gstep_ff, gstep_tf, gstep_ft, gstep_skip, int_bne, int_beq, decide_not, Nat.reduceAdd, Nat.reduceMul, Nat.reduceSub, Nat.reducePow, Nat.reduceLT, Nat.reduceLeDiff, Nat.reduceEqDiff, Int.reduceToNat, Int.reduceAdd, Int.reduceSub, Int.reduceNeg, Int.reduceMul, Int.reduceLT, Int.reduceLE, Int.reduceEq, le_max, ↓wo_build, ↓wo_buildSlice, evParts, ↓reduceIte, planIds, hasExt, cntFs, idxFs, clnFs, ovlFs, List.contains_cons, List.contains_nil, List.any_cons, List.any_nil, Nat.reduceBEq, setC, List.length_set, decide_eq_true_eq, decide_eq_false_iff_not, true_implies, false_implies, forall_const, reduceCtorEq, eq_self, Int.natCast_nonneg, Int.toNat_natCast, Int.ofNat_lt, D.int.injEq, Option.some.injEq, Nat.zero_add, Nat.add_zero, bne_iff_ne, bne_eq_false_iff_eq, beq_iff_eq, beq_eq_false_iff_ne, gt_iff_lt, ne_eq, not_true_eq_false, not_false_eq_true, planIds, hasExt, cntFs, idxFs, clnFs, ovlFs, List.contains_cons, List.contains_nil, List.any_cons, List.any_nil, Nat.reduceBEq, Nat.reduceMul, Nat.reduceAdd, ↓reduceIte, hal, h0, h2, h3, h4, h10, h11, g, ge_iff_le, Int.ofNat_le]
  clear hal h0 h2 h3 h4 h10 h11 a
  rintro a T' ⟨rfl, hal, h0, h2, h3, h4, h10, h11⟩
  obtain ⟨p1, hp1⟩ : ∃ p, p = first + ch := ⟨_, rfl⟩
  obtain ⟨p2, hp2⟩ : ∃ p, p = first + ch + 1 := ⟨_, rfl⟩
  obtain ⟨ch2, hch2⟩ : ∃ p, p = ch + 1 := ⟨_, rfl⟩
  have w2 : IntKind.i64.wrap ((ch : Int) + 1) = (ch2 : Int) := by rw [wrap_ok (by omega) (by omega)]; omega
  have w3 : IntKind.i64.wrap ((first : Int) + (ch : Int)) = (p1 : Int) := by rw [wrap_ok (by omega) (by omega)]; omega
  have w4 : IntKind.i64.wrap ((p1 : Int) + 1) = (p2 : Int) := by rw [wrap_ok (by omega) (by omega)]; omega
  have b1 : p1 < d.size := by omega
  have l1 := row_at (val := val) (d := d') (i := p1) (by omega)
  have key : ∃ m, (m = if ch + 1 < hi ∧ lt c d'[p1]! d'[p2]! = true then ch2 else ch) := ⟨_, rfl⟩
  obtain ⟨m, hm⟩ := key
  refine wc_scut (fun a T => T = T' ∧ a.length = 82 ∧ a[0]? = some (.os k 0 d.size x) ∧ a[2]? = some (.int .i64 hi) ∧ a[3]? = some (.int .i64 first) ∧ a[4]? = some (cf) ∧ a[10]? = some (.int .i64 rt) ∧ a[11]? = some (.int .i64 m)) ?_ ?_
  · by_cases g2 : ch2 < hi
    case neg =>
      rw [if_neg (by omega)] at hm
      simp (maxSteps := 1000000) (disch := omega) only [push_cast, ↓wc_seq, ↓wc_block, ↓wc_scope, ↓wc_condL, ↓wc_region, ↓wr_cons, ↓wr_consgL, ↓wr_nil, ↓wo_pickL, ↓wo_callf, ↓wc_exit, ↓wc_ret, ↓wc_skip, ↓wc_wl, wo_some, wo_none, wo_ite, opQ_eq, seqQ_normal, seqQ_exit, seqQ_ret, blockQ_normal, blockQ_exit, blockQ_ret, iterQ_normal, iterQ_exit, iterQ_ret, retQ_normal, retQ_ret, retQ_exit, pickC_true, pickC_false, pickO_true, pickO_false, gstep_tt, gstep_ff, gstep_tf, gstep_ft, gstep_skip, int_bne, int_beq, decide_not, Nat.reduceAdd, Nat.reduceMul, Nat.reduceSub, Nat.reducePow, Nat.reduceLT, Nat.reduceLeDiff, Nat.reduceEqDiff, Int.reduceToNat, Int.reduceAdd, Int.reduceSub, Int.reduceNeg, Int.reduceMul, Int.reduceLT, Int.reduceLE, Int.reduceEq, le_max, ↓wo_build, ↓wo_buildSlice, evParts, ↓reduceIte, planIds, hasExt, cntFs, idxFs, clnFs, ovlFs, List.contains_cons, List.contains_nil, List.any_cons, List.any_nil, Nat.reduceBEq, setC, List.length_set, decide_eq_true_eq, decide_eq_false_iff_not, true_implies, false_implies, forall_const, reduceCtorEq, eq_self, Int.natCast_nonneg, Int.toNat_natCast, Int.ofNat_lt, D.int.injEq, Option.some.injEq, Nat.zero_add, Nat.add_zero, bne_iff_ne, bne_eq_false_iff_eq, beq_iff_eq, beq_eq_false_iff_ne, gt_iff_lt, ne_eq, not_true_eq_false, not_false_eq_true, planIds, hasExt, cntFs, idxFs, clnFs, ovlFs, List.contains_cons, List.contains_nil, List.any_cons, List.any_nil, Nat.reduceBEq, Nat.reduceMul, Nat.reduceAdd, ↓reduceIte, hal, h0, h2, h3, h4, h10, h11, w2, g2, hm]
    have b2 : p2 < d.size := by omega
    have l2 := row_at (val := val) (d := d') (i := p2) (by omega)
    have cc := fun st => hC n (by omega) d' T' hr st d'[p1]! d'[p2]!
    by_cases e1 : c d'[p1]! d'[p2]! < 0
    · rw [if_pos ⟨by omega, by simpa [lt] using e1⟩] at hm
      simp (maxSteps := 1000000) (disch := omega) only [push_cast, ↓wc_seq, ↓wc_block, ↓wc_scope, ↓wc_condL, ↓wc_region, ↓wr_cons, ↓wr_consgL, ↓wr_nil, ↓wo_pickL, ↓wo_callf, ↓wc_exit, ↓wc_ret, ↓wc_skip, ↓wc_wl, wo_some, wo_none, wo_ite, opQ_eq, seqQ_normal, seqQ_exit, seqQ_ret, blockQ_normal, blockQ_exit, blockQ_ret, iterQ_normal, iterQ_exit, iterQ_ret, retQ_normal, retQ_ret, retQ_exit, pickC_true, pickC_false, pickO_true, pickO_false, gstep_tt, gstep_ff, gstep_tf, gstep_ft, gstep_skip, int_bne, int_beq, decide_not, Nat.reduceAdd, Nat.reduceMul, Nat.reduceSub, Nat.reducePow, Nat.reduceLT, Nat.reduceLeDiff, Nat.reduceEqDiff, Int.reduceToNat, Int.reduceAdd, Int.reduceSub, Int.reduceNeg, Int.reduceMul, Int.reduceLT, Int.reduceLE, Int.reduceEq, le_max, ↓wo_build, ↓wo_buildSlice, evParts, ↓reduceIte, planIds, hasExt, cntFs, idxFs, clnFs, ovlFs, List.contains_cons, List.contains_nil, List.any_cons, List.any_nil, Nat.reduceBEq, setC, List.length_set, decide_eq_true_eq, decide_eq_false_iff_not, true_implies, false_implies, forall_const, reduceCtorEq, eq_self, Int.natCast_nonneg, Int.toNat_natCast, Int.ofNat_lt, D.int.injEq, Option.some.injEq, Nat.zero_add, Nat.add_zero, bne_iff_ne, bne_eq_false_iff_eq, beq_iff_eq, beq_eq_false_iff_ne, gt_iff_lt, ne_eq, not_true_eq_false, not_false_eq_true, planIds, hasExt, cntFs, idxFs, clnFs, ovlFs, List.contains_cons, List.contains_nil, List.any_cons, List.any_nil, Nat.reduceBEq, Nat.reduceMul, Nat.reduceAdd, ↓reduceIte, hal, h0, h2, h3, h4, h10, h11, w2, w3, w4, g2, hm, hr.row, sz_el, b1, b2, l1, l2, ↓wo_callv, cc, e1]
    · rw [if_neg (by simp [lt, e1])] at hm
      simp (maxSteps := 1000000) (disch := omega) only [push_cast, ↓wc_seq, ↓wc_block, ↓wc_scope, ↓wc_condL, ↓wc_region, ↓wr_cons, ↓wr_consgL, ↓wr_nil, ↓wo_pickL, ↓wo_callf, ↓wc_exit, ↓wc_ret, ↓wc_skip, ↓wc_wl, wo_some, wo_none, wo_ite, opQ_eq, seqQ_normal, seqQ_exit, seqQ_ret, blockQ_normal, blockQ_exit, blockQ_ret, iterQ_normal, iterQ_exit, iterQ_ret, retQ_normal, retQ_ret, retQ_exit, pickC_true, pickC_false, pickO_true, pickO_false, gstep_tt, gstep_ff, gstep_tf, gstep_ft, gstep_skip, int_bne, int_beq, decide_not, Nat.reduceAdd, Nat.reduceMul, Nat.reduceSub, Nat.reducePow, Nat.reduceLT, Nat.reduceLeDiff, Nat.reduceEqDiff, Int.reduceToNat, Int.reduceAdd, Int.reduceSub, Int.reduceNeg, Int.reduceMul, Int.reduceLT, Int.reduceLE, Int.reduceEq, le_max, ↓wo_build, ↓wo_buildSlice, evParts, ↓reduceIte, planIds, hasExt, cntFs, idxFs, clnFs, ovlFs, List.contains_cons, List.contains_nil, List.any_cons, List.any_nil, Nat.reduceBEq, setC, List.length_set, decide_eq_true_eq, decide_eq_false_iff_not, true_implies, false_implies, forall_const, reduceCtorEq, eq_self, Int.natCast_nonneg, Int.toNat_natCast, Int.ofNat_lt, D.int.injEq, Option.some.injEq, Nat.zero_add, Nat.add_zero, bne_iff_ne, bne_eq_false_iff_eq, beq_iff_eq, beq_eq_false_iff_ne, gt_iff_lt, ne_eq, not_true_eq_false, not_false_eq_true, planIds, hasExt, cntFs, idxFs, clnFs, ovlFs, List.contains_cons, List.contains_nil, List.any_cons, List.any_nil, Nat.reduceBEq, Nat.reduceMul, Nat.reduceAdd, ↓reduceIte, hal, h0, h2, h3, h4, h10, h11, w2, w3, w4, g2, hm, hr.row, sz_el, b1, b2, l1, l2, ↓wo_callv, cc, e1]
  clear hal h0 h2 h3 h4 h10 h11 a
  clear l1
  rintro a T ⟨rfl, hal, h0, h2, h3, h4, h10, h11⟩
  have hmh : m < hi ∧ rt < m := by
    split at hm <;> omega
  obtain ⟨q1, hq1⟩ : ∃ p, p = first + rt := ⟨_, rfl⟩
  obtain ⟨q2, hq2⟩ : ∃ p, p = first + m := ⟨_, rfl⟩
  have w5 : IntKind.i64.wrap ((first : Int) + (rt : Int)) = (q1 : Int) := by rw [wrap_ok (by omega) (by omega)]; omega
  have w6 : IntKind.i64.wrap ((first : Int) + (m : Int)) = (q2 : Int) := by rw [wrap_ok (by omega) (by omega)]; omega
  have b3 : q1 < d.size := by omega
  have b4 : q2 < d.size := by omega
  have l3 := row_at (val := val) (d := d') (i := q1) (by omega)
  have l4 := row_at (val := val) (d := d') (i := q2) (by omega)
  have l5 := row_at (val := val) (d := d'.setIfInBounds q1 d'[q2]!) (i := q2) (by simp; omega)
  have cc := fun st => hC n (by omega) d' T hr st d'[q1]! d'[q2]!
  have hu : Sort.siftDown (lt c) hi first rt d' = if lt c d'[q1]! d'[q2]! = true then Sort.siftDown (lt c) hi first m (Sort.swp d' q1 q2) else d' := by
    rw [Sort.siftDown, dif_neg (by omega)]
    subst hq1 hq2 hp1 hp2 hch2 hch
    by_cases g3 : 2 * rt + 1 + 1 < hi ∧ lt c d'[first + (2 * rt + 1)]! d'[first + (2 * rt + 1) + 1]! = true
    · rw [if_pos g3] at hm
      subst hm
      rw [if_pos (by simpa using g3), dif_pos (by omega)]
      cases lt c d'[first + rt]! d'[first + (2 * rt + 1 + 1)]! <;> rfl
    · rw [if_neg g3] at hm
      subst hm
      rw [if_neg (by simpa using g3)]
      cases lt c d'[first + rt]! d'[first + (2 * rt + 1)]! <;> rfl
  by_cases e1 : c d'[q1]! d'[q2]! < 0
  case neg =>
    rw [if_neg (by simp [lt, e1])] at hu
    simp (maxSteps := 1000000) (disch := omega) only [push_cast, ↓wc_seq, ↓wc_block, ↓wc_scope, ↓wc_condL, ↓wc_region, ↓wr_cons, ↓wr_consgL, ↓wr_nil, ↓wo_pickL, ↓wo_callf, ↓wc_exit, ↓wc_ret, ↓wc_skip, ↓wc_wl, wo_some, wo_none, wo_ite, opQ_eq, seqQ_normal, seqQ_exit, seqQ_ret, blockQ_normal, blockQ_exit, blockQ_ret, iterQ_normal, iterQ_exit, iterQ_ret, retQ_normal, retQ_ret, retQ_exit, pickC_true, pickC_false, pickO_true, pickO_false, gstep_tt, gstep_ff, gstep_tf, gstep_ft, gstep_skip, int_bne, int_beq, decide_not, Nat.reduceAdd, Nat.reduceMul, Nat.reduceSub, Nat.reducePow, Nat.reduceLT, Nat.reduceLeDiff, Nat.reduceEqDiff, Int.reduceToNat, Int.reduceAdd, Int.reduceSub, Int.reduceNeg, Int.reduceMul, Int.reduceLT, Int.reduceLE, Int.reduceEq, le_max, ↓wo_build, ↓wo_buildSlice, evParts, ↓reduceIte, planIds, hasExt, cntFs, idxFs, clnFs, ovlFs, List.contains_cons, List.contains_nil, List.any_cons, List.any_nil, Nat.reduceBEq, setC, List.length_set, decide_eq_true_eq, decide_eq_false_iff_not, true_implies, false_implies, forall_const, reduceCtorEq, eq_self, Int.natCast_nonneg, Int.toNat_natCast, Int.ofNat_lt, D.int.injEq, Option.some.injEq, Nat.zero_add, Nat.add_zero, bne_iff_ne, bne_eq_false_iff_eq, beq_iff_eq, beq_eq_false_iff_ne, gt_iff_lt, ne_eq, not_true_eq_false, not_false_eq_true, planIds, hasExt, cntFs, idxFs, clnFs, ovlFs, List.contains_cons, List.contains_nil, List.any_cons, List.any_nil, Nat.reduceBEq, Nat.reduceMul, Nat.reduceAdd, ↓reduceIte, hal, h0, h2, h3, h4, h10, h11, w5, w6, hr.row, sz_el, b3, b4, l3, l4, ↓wo_callv, cc, e1, Tryd.f92]
    exact stop hu
  rw [if_pos (by simp [lt, e1])] at hu
  have hkl := hr.lt
  have cv : ∀ y, (val y).cells = [val y] := fun y => cells_one (hv y)
  simp only [D.cells] at cv
  have ov := hv
  simp only [D.one] at ov
  simp (maxSteps := 1000000) (disch := omega) only [push_cast, ↓wc_seq, ↓wc_block, ↓wc_scope, ↓wc_condL, ↓wc_region, ↓wr_cons, ↓wr_consgL, ↓wr_nil, ↓wo_pickL, ↓wo_callf, ↓wc_exit, ↓wc_ret, ↓wc_skip, ↓wc_wl, wo_some, wo_none, wo_ite, opQ_eq, seqQ_normal, seqQ_exit, seqQ_ret, blockQ_normal, blockQ_exit, blockQ_ret, iterQ_normal, iterQ_exit, iterQ_ret, retQ_normal, retQ_ret, retQ_exit, pickC_true, pickC_false, pickO_true, pickO_false, gstep_tt, gstep_ff, gstep_tf, gstep_ft, gstep_skip, int_bne, int_beq, decide_not, Nat.reduceAdd, Nat.reduceMul, Nat.reduceSub, Nat.reducePow, Nat.reduceLT, Nat.reduceLeDiff, Nat.reduceEqDiff, Int.reduceToNat, Int.reduceAdd, Int.reduceSub, Int.reduceNeg, Int.reduceMul, Int.reduceLT, Int.reduceLE, Int.reduceEq, le_max, ↓wo_build, ↓wo_buildSlice, evParts, ↓reduceIte, planIds, hasExt, cntFs, idxFs, clnFs, ovlFs, List.contains_cons, List.contains_nil, List.any_cons, List.any_nil, Nat.reduceBEq, setC, List.length_set, decide_eq_true_eq, decide_eq_false_iff_not, true_implies, false_implies, forall_const, reduceCtorEq, eq_self, Int.natCast_nonneg, Int.toNat_natCast, Int.ofNat_lt, D.int.injEq, Option.some.injEq, Nat.zero_add, Nat.add_zero, bne_iff_ne, bne_eq_false_iff_eq, beq_iff_eq, beq_eq_false_iff_ne, gt_iff_lt, ne_eq, not_true_eq_false, not_false_eq_true, planIds, hasExt, cntFs, idxFs, clnFs, ovlFs, List.contains_cons, List.contains_nil, List.any_cons, List.any_nil, Nat.reduceBEq, Nat.reduceMul, Nat.reduceAdd, ↓reduceIte, hal, h0, h2, h3, h4, h10, h11, w5, w6, hr.row, sz_el, b3, b4, l3, l4, ↓wo_callv, cc, e1, l5, hkl, cv, ov, row_set, List.set_set]
  exact ⟨by omega, Sort.swp d' q1 q2, m, rfl, ⟨by omega, .inr (by omega), by omega⟩, by rw [swp_size]; exact hs, hr.put, by rw [hq, hu]⟩
set_option maxHeartbeats 4000000 in
set_option maxRecDepth 100000 in
theorem heap_d {n n0 lo hi : Nat} {x : Bool} (hv : ∀ x, (val x).one = true) (hC : CmpOk n0 S0 k val cf c) (hn : n0 + d.size + 4 ≤ n) (hab : lo < hi) (hb : hi ≤ d.size) (hz : d.size ≤ 100000) (h : R S0 k val d T) :
    WO (dcall E (n + 1) 79 [.os k 0 d.size x, .int .i64 lo, .int .i64 hi, cf] T) fun _ T' => R S0 k val (Sort.heapSort (lt c) d lo hi) T' := by
  refine wo_dcall Tryd.func79 rfl (by decide) rfl 60 rfl (fun a hal ha => ?_)
  have h0 : a[0]? = some (.os k 0 d.size x) := ha 0 (by simp)
  have h1 : a[1]? = some (.int .i64 lo) := ha 1 (by simp)
  have h2 : a[2]? = some (.int .i64 hi) := ha 2 (by simp)
  have h3 : a[3]? = some (cf) := ha 3 (by simp)
  clear ha
  obtain ⟨ln, hln⟩ : ∃ ln, ln = hi - lo := ⟨_, rfl⟩
  obtain ⟨m, hm⟩ : ∃ m, m = (ln - 1) / 2 := ⟨_, rfl⟩
  have w1 : IntKind.i64.wrap ((hi : Int) - (lo : Int)) = (ln : Int) := by rw [wrap_ok (by omega) (by omega)]; omega
  have w2 : IntKind.i64.wrap ((IntKind.i64.wrap ((ln : Int) - 1)).tdiv 2) = (m : Int) := by
    rw [wrap_ok (x := (ln : Int) - 1) (by omega) (by omega), show ((ln : Int) - 1) = ((ln - 1 : Nat) : Int) by omega, show (2 : Int) = ((2 : Nat) : Int) from rfl, ← Int.ofNat_tdiv, wrap_ok (by omega) (by omega), hm]
  have hhs : Sort.heapSort (lt c) d lo hi = Sort.heapPop (lt c) lo ln (Sort.heapBuild (lt c) ln lo (m + 1) d) := by rw [Sort.heapSort, hm, hln]
  rw [hhs]
  -- the heap is built
  rw [wc_asc, wc_asc]
  refine wc_scut (fun a T' => T' = T ∧ a.length = 60 ∧ a[0]? = some (.os k 0 d.size x) ∧ a[3]? = some (cf) ∧ a[8]? = some (.int .i64 lo) ∧ a[9]? = some (.int .i64 0) ∧ a[10]? = some (.int .i64 ln)) ?_ ?_
  · simp (maxSteps := 1000000) (disch := omega) only [push_cast, ↓wc_seq, ↓wc_block, ↓wc_scope, ↓wc_condL, ↓wc_region, ↓wr_cons, ↓wr_consgL, ↓wr_nil, ↓wo_pickL, ↓wo_callf, ↓wc_exit, ↓wc_ret, ↓wc_skip, ↓wc_wl, wo_some, wo_none, wo_ite, opQ_eq, seqQ_normal, seqQ_exit, seqQ_ret, blockQ_normal, blockQ_exit, blockQ_ret, iterQ_normal, iterQ_exit, iterQ_ret, retQ_normal, retQ_ret, retQ_exit, pickC_true, pickC_false, pickO_true, pickO_false, gstep_tt, gstep_ff, gstep_tf, gstep_ft, gstep_skip, int_bne, int_beq, decide_not, Nat.reduceAdd, Nat.reduceMul, Nat.reduceSub, Nat.reducePow, Nat.reduceLT, Nat.reduceLeDiff, Nat.reduceEqDiff, Int.reduceToNat, Int.reduceAdd, Int.reduceSub, Int.reduceNeg, Int.reduceMul, Int.reduceLT, Int.reduceLE, Int.reduceEq, le_max, ↓wo_build, ↓wo_buildSlice, evParts, ↓reduceIte, planIds, hasExt, cntFs, idxFs, clnFs, ovlFs, List.contains_cons, List.contains_nil, List.any_cons, List.any_nil, Nat.reduceBEq, setC, List.length_set, decide_eq_true_eq, decide_eq_false_iff_not, true_implies, false_implies, forall_const, reduceCtorEq, eq_self, Int.natCast_nonneg, Int.toNat_natCast, Int.ofNat_lt, D.int.injEq, Option.some.injEq, Nat.zero_add, Nat.add_zero, bne_iff_ne, bne_eq_false_iff_eq, beq_iff_eq, beq_eq_false_iff_ne, gt_iff_lt, ne_eq, not_true_eq_false, not_false_eq_true, planIds, hasExt, cntFs, idxFs, clnFs, ovlFs, List.contains_cons, List.contains_nil, List.any_cons, List.any_nil, Nat.reduceBEq, Nat.reduceMul, Nat.reduceAdd, ↓reduceIte, hal, h0, h1, h2, h3, w1]
  clear hal h0 h1 h2 h3 a
  rintro a T' ⟨rfl, hal, h0, h3, h8, h9, h10⟩
  refine wc_scut (fun a T' => ∃ d' : Array α, a.length = 60 ∧ a[0]? = some (.os k 0 d.size x) ∧ a[3]? = some (cf) ∧ a[8]? = some (.int .i64 lo) ∧ a[9]? = some (.int .i64 0) ∧ a[10]? = some (.int .i64 ln) ∧ d'.size = d.size ∧ R S0 k val d' T' ∧ Sort.heapBuild (lt c) ln lo (m + 1) d = d') ?_ ?_
  · simp (maxSteps := 1000000) (disch := omega) only [push_cast, ↓wc_seq, ↓wc_block, ↓wc_scope, ↓wc_condL, ↓wc_region, ↓wr_cons, ↓wr_consgL, ↓wr_nil, ↓wo_pickL, ↓wo_callf, ↓wc_exit, ↓wc_ret, ↓wc_skip, ↓wc_wl, wo_some, wo_none, wo_ite, opQ_eq, seqQ_normal, seqQ_exit, seqQ_ret, blockQ_normal, blockQ_exit, blockQ_ret, iterQ_normal, iterQ_exit, iterQ_ret, retQ_normal, retQ_ret, retQ_exit, pickC_true, pickC_false, pickO_true, pickO_false, gstep_tt, gstep_ff, gstep_tf, gstep_ft, gstep_skip, int_bne, int_beq, decide_not, Nat.reduceAdd, Nat.reduceMul, Nat.reduceSub, Nat.reducePow, Nat.reduceLT, Nat.reduceLeDiff, Nat.reduceEqDiff, Int.reduceToNat, Int.reduceAdd, Int.reduceSub, Int.reduceNeg, Int.reduceMul, Int.reduceLT, Int.reduceLE, Int.reduceEq, le_max, ↓wo_build, ↓wo_buildSlice, evParts, ↓reduceIte, planIds, hasExt, cntFs, idxFs, clnFs, ovlFs, List.contains_cons, List.contains_nil, List.any_cons, List.any_nil, Nat.reduceBEq, setC, List.length_set, decide_eq_true_eq, decide_eq_false_iff_not, true_implies, false_implies, forall_const, reduceCtorEq, eq_self, Int.natCast_nonneg, Int.toNat_natCast, Int.ofNat_lt, D.int.injEq, Option.some.injEq, Nat.zero_add, Nat.add_zero, bne_iff_ne, bne_eq_false_iff_eq, beq_iff_eq, beq_eq_false_iff_ne, gt_iff_lt, ne_eq, not_true_eq_false, not_false_eq_true, planIds, hasExt, cntFs, idxFs, clnFs, ovlFs, List.contains_cons, List.contains_nil, List.any_cons, List.any_nil, Nat.reduceBEq, Nat.reduceMul, Nat.reduceAdd, ↓reduceIte, hal, h0, h3, h8, h9, h10, w2]
    refine wl_loop (fun i a T' => ∃ (d' : Array α) (j : Nat), a.length = 60 ∧ a[0]? = some (.os k 0 d.size x) ∧ a[3]? = some (cf) ∧ a[8]? = some (.int .i64 lo) ∧ a[9]? = some (.int .i64 0) ∧ a[10]? = some (.int .i64 ln) ∧ a[11]? = some (.int .i64 ((j : Int) - 1)) ∧ j + i = m + 1 ∧ d'.size = d.size ∧ R S0 k val d' T' ∧ Sort.heapBuild (lt c) ln lo (m + 1) d = Sort.heapBuild (lt c) ln lo j d') (m + 1) ?_ (by omega) ?_
    · refine ⟨d, m + 1, ?_⟩
      simp (maxSteps := 1000000) (disch := omega) only [push_cast, ↓wc_seq, ↓wc_block, ↓wc_scope, ↓wc_condL, ↓wc_region, ↓wr_cons, ↓wr_consgL, ↓wr_nil, ↓wo_pickL, ↓wo_callf, ↓wc_exit, ↓wc_ret, ↓wc_skip, ↓wc_wl, wo_some, wo_none, wo_ite, opQ_eq, seqQ_normal, seqQ_exit, seqQ_ret, blockQ_normal, blockQ_exit, blockQ_ret, iterQ_normal, iterQ_exit, iterQ_ret, retQ_normal, retQ_ret, retQ_exit, pickC_true, pickC_false, pickO_true, pickO_false, gstep_tt, gstep_ff, gstep_tf, gstep_ft, gstep_skip, int_bne, int_beq, decide_not, Nat.reduceAdd, Nat.reduceMul, Nat.reduceSub, Nat.reducePow, Nat.reduceLT, Nat.reduceLeDiff, Nat.reduceEqDiff, Int.reduceToNat, Int.reduceAdd, Int.reduceSub, Int.reduceNeg, Int.reduceMul, Int.reduceLT, Int.reduceLE, Int.reduceEq, le_max, ↓wo_build, ↓wo_buildSlice, evParts, ↓reduceIte, planIds, hasExt, cntFs, idxFs, clnFs, ovlFs, List.contains_cons, List.contains_nil, List.any_cons, List.any_nil, Nat.reduceBEq, setC, List.length_set, decide_eq_true_eq, decide_eq_false_iff_not, true_implies, false_implies, forall_const, reduceCtorEq, eq_self, Int.natCast_nonneg, Int.toNat_natCast, Int.ofNat_lt, D.int.injEq, Option.some.injEq, Nat.zero_add, Nat.add_zero, bne_iff_ne, bne_eq_false_iff_eq, beq_iff_eq, beq_eq_false_iff_ne, gt_iff_lt, ne_eq, not_true_eq_false, not_false_eq_true, planIds, hasExt, cntFs, idxFs, clnFs, ovlFs, List.contains_cons, List.contains_nil, List.any_cons, List.any_nil, Nat.reduceBEq, Nat.reduceMul, Nat.reduceAdd, ↓reduceIte, hal, h0, h3, h8, h9, h10, Int.natCast_add, Int.natCast_one, Int.add_sub_cancel]
      exact h
    clear hal h0 h3 h8 h9 h10 a
    rintro i a T2 hi' ⟨d', j, hal, h0, h3, h8, h9, h10, h11, hj, hs, hr, hq⟩
    cases j with
    | zero =>
      have g : ¬ (0 : Int) ≤ ((0 : Nat) : Int) - 1 := by omega
      simp (maxSteps := 1000000) (disch := omega) only [push_cast, ↓wc_seq, ↓wc_block, ↓wc_scope, ↓wc_condL, ↓wc_region, ↓wr_cons, ↓wr_consgL, ↓wr_nil, ↓wo_pickL, ↓wo_callf, ↓wc_exit, ↓wc_ret, ↓wc_skip, ↓wc_wl, wo_some, wo_none, wo_ite, opQ_eq, seqQ_normal, seqQ_exit, seqQ_ret, blockQ_normal, blockQ_exit, blockQ_ret, iterQ_normal, iterQ_exit, iterQ_ret, retQ_normal, retQ_ret, retQ_exit, pickC_true, pickC_false, pickO_true, pickO_false, gstep_tt, gstep_ff, gstep_tf, gstep_ft, gstep_skip, int_bne, int_beq, decide_not, Nat.reduceAdd, Nat.reduceMul, Nat.reduceSub, Nat.reducePow, Nat.reduceLT, Nat.reduceLeDiff, Nat.reduceEqDiff, Int.reduceToNat, Int.reduceAdd, Int.reduceSub, Int.reduceNeg, Int.reduceMul, Int.reduceLT, Int.reduceLE, Int.reduceEq, le_max, ↓wo_build, ↓wo_buildSlice, evParts, ↓reduceIte, planIds, hasExt, cntFs, idxFs, clnFs, ovlFs, List.contains_cons, List.contains_nil, List.any_cons, List.any_nil, Nat.reduceBEq, setC, List.length_set, decide_eq_true_eq, decide_eq_false_iff_not, true_implies, false_implies, forall_const, reduceCtorEq, eq_self, Int.natCast_nonneg, Int.toNat_natCast, Int.ofNat_lt, D.int.injEq, Option.some.injEq, Nat.zero_add, Nat.add_zero, bne_iff_ne, bne_eq_false_iff_eq, beq_iff_eq, beq_eq_false_iff_ne, gt_iff_lt, ne_eq, not_true_eq_false, not_false_eq_true, planIds, hasExt, cntFs, idxFs, clnFs, ovlFs, List.contains_cons, List.contains_nil, List.any_cons, List.any_nil, Nat.reduceBEq, Nat.reduceMul, Nat.reduceAdd, ↓reduceIte, hal, h0, h3, h8, h9, h10, h11, g, ge_iff_le]
      exact ⟨d', hs, hr, hq⟩
    | succ j =>
      rw [show (((j + 1 : Nat) : Int) - 1) = (j : Int) by omega] at h11
      obtain ⟨_, T3, hT3, r3, s3⟩ := sift_d (n := n - 1) (lo := j) (hi := ln) (first := lo) (x := x) hv hC (by omega) (by omega) (by omega) (by omega) hr
      rw [show n - 1 + 1 = n by omega, hs] at hT3
      have hcall := (callD_own (f := 92) rfl pure_own).trans hT3
      simp (maxSteps := 1000000) (disch := omega) only [push_cast, ↓wc_seq, ↓wc_block, ↓wc_scope, ↓wc_condL, ↓wc_region, ↓wr_cons, ↓wr_consgL, ↓wr_nil, ↓wo_pickL, ↓wo_callf, ↓wc_exit, ↓wc_ret, ↓wc_skip, ↓wc_wl, wo_some, wo_none, wo_ite, opQ_eq, seqQ_normal, seqQ_exit, seqQ_ret, blockQ_normal, blockQ_exit, blockQ_ret, iterQ_normal, iterQ_exit, iterQ_ret, retQ_normal, retQ_ret, retQ_exit, pickC_true, pickC_false, pickO_true, pickO_false, gstep_tt, gstep_ff, gstep_tf, gstep_ft, gstep_skip, int_bne, int_beq, decide_not, Nat.reduceAdd, Nat.reduceMul, Nat.reduceSub, Nat.reducePow, Nat.reduceLT, Nat.reduceLeDiff, Nat.reduceEqDiff, Int.reduceToNat, Int.reduceAdd, Int.reduceSub, Int.reduceNeg, Int.reduceMul, Int.reduceLT, Int.reduceLE, Int.reduceEq, le_max, ↓wo_build, ↓wo_buildSlice, evParts, ↓reduceIte, planIds, hasExt, cntFs, idxFs, clnFs, ovlFs, List.contains_cons, List.contains_nil, List.any_cons, List.any_nil, Nat.reduceBEq, setC, List.length_set, decide_eq_true_eq, decide_eq_false_iff_not, true_implies, false_implies, forall_const, reduceCtorEq, eq_self, Int.natCast_nonneg, Int.toNat_natCast, Int.ofNat_lt, D.int.injEq, Option.some.injEq, Nat.zero_add, Nat.add_zero, bne_iff_ne, bne_eq_false_iff_eq, beq_iff_eq, beq_eq_false_iff_ne, gt_iff_lt, ne_eq, not_true_eq_false, not_false_eq_true, planIds, hasExt, cntFs, idxFs, clnFs, ovlFs, List.contains_cons, List.contains_nil, List.any_cons, List.any_nil, Nat.reduceBEq, Nat.reduceMul, Nat.reduceAdd, ↓reduceIte, hal, h0, h3, h8, h9, h10, h11, ge_iff_le, hcall, wrap_ok]
      exact ⟨by omega, _, j, rfl, by omega, by rw [s3]; exact hs, r3, by rw [hq, Sort.heapBuild]⟩
  clear hal h0 h3 h8 h9 h10 a
  clear h
  rintro a T2 ⟨d1, hal, h0, h3, h8, h9, h10, hs1, hr1, hq1⟩
  rw [hq1]
  clear hq1 hhs
  obtain ⟨l1, hl1⟩ : ∃ l1, ln = l1 + 1 := ⟨ln - 1, by omega⟩
  have w3 : IntKind.i64.wrap ((ln : Int) - 1) = (ln : Int) - 1 := by rw [wrap_ok (by omega) (by omega)]
  simp (maxSteps := 1000000) (disch := omega) only [push_cast, ↓wc_seq, ↓wc_block, ↓wc_scope, ↓wc_condL, ↓wc_region, ↓wr_cons, ↓wr_consgL, ↓wr_nil, ↓wo_pickL, ↓wo_callf, ↓wc_exit, ↓wc_ret, ↓wc_skip, ↓wc_wl, wo_some, wo_none, wo_ite, opQ_eq, seqQ_normal, seqQ_exit, seqQ_ret, blockQ_normal, blockQ_exit, blockQ_ret, iterQ_normal, iterQ_exit, iterQ_ret, retQ_normal, retQ_ret, retQ_exit, pickC_true, pickC_false, pickO_true, pickO_false, gstep_tt, gstep_ff, gstep_tf, gstep_ft, gstep_skip, int_bne, int_beq, decide_not, Nat.reduceAdd, Nat.reduceMul, Nat.reduceSub, Nat.reducePow, Nat.reduceLT, Nat.reduceLeDiff, Nat.reduceEqDiff, Int.reduceToNat, Int.reduceAdd, Int.reduceSub, Int.reduceNeg, Int.reduceMul, Int.reduceLT, Int.reduceLE, Int.reduceEq, le_max, ↓wo_build, ↓wo_buildSlice, evParts, ↓reduceIte, planIds, hasExt, cntFs, idxFs, clnFs, ovlFs, List.contains_cons, List.contains_nil, List.any_cons, List.any_nil, Nat.reduceBEq, setC, List.length_set, decide_eq_true_eq, decide_eq_false_iff_not, true_implies, false_implies, forall_const, reduceCtorEq, eq_self, Int.natCast_nonneg, Int.toNat_natCast, Int.ofNat_lt, D.int.injEq, Option.some.injEq, Nat.zero_add, Nat.add_zero, bne_iff_ne, bne_eq_false_iff_eq, beq_iff_eq, beq_eq_false_iff_ne, gt_iff_lt, ne_eq, not_true_eq_false, not_false_eq_true, planIds, hasExt, cntFs, idxFs, clnFs, ovlFs, List.contains_cons, List.contains_nil, List.any_cons, List.any_nil, Nat.reduceBEq, Nat.reduceMul, Nat.reduceAdd, ↓reduceIte, hal, h0, h3, h8, h9, h10, w3, wc_wl]
  refine wl_loop (fun i a T' => ∃ (d' : Array α) (j : Nat), a.length = 60 ∧ a[0]? = some (.os k 0 d.size x) ∧ a[3]? = some (cf) ∧ a[8]? = some (.int .i64 lo) ∧ a[9]? = some (.int .i64 0) ∧ a[12]? = some (.int .i64 ((j : Int) - 1)) ∧ j + i = ln ∧ d'.size = d.size ∧ R S0 k val d' T' ∧ Sort.heapPop (lt c) lo ln d1 = Sort.heapPop (lt c) lo j d') ln ?_ (by omega) ?_
  · refine ⟨d1, ln, ?_⟩
    simp (maxSteps := 1000000) (disch := omega) only [push_cast, ↓wc_seq, ↓wc_block, ↓wc_scope, ↓wc_condL, ↓wc_region, ↓wr_cons, ↓wr_consgL, ↓wr_nil, ↓wo_pickL, ↓wo_callf, ↓wc_exit, ↓wc_ret, ↓wc_skip, ↓wc_wl, wo_some, wo_none, wo_ite, opQ_eq, seqQ_normal, seqQ_exit, seqQ_ret, blockQ_normal, blockQ_exit, blockQ_ret, iterQ_normal, iterQ_exit, iterQ_ret, retQ_normal, retQ_ret, retQ_exit, pickC_true, pickC_false, pickO_true, pickO_false, gstep_tt, gstep_ff, gstep_tf, gstep_ft, gstep_skip, int_bne, int_beq, decide_not, Nat.reduceAdd, Nat.reduceMul, Nat.reduceSub, Nat.reducePow, Nat.reduceLT, Nat.reduceLeDiff, Nat.reduceEqDiff, Int.reduceToNat, Int.reduceAdd, Int.reduceSub, Int.reduceNeg, Int.reduceMul, Int.reduceLT, Int.reduceLE, Int.reduceEq, le_max, ↓wo_build, ↓wo_buildSlice, evParts, ↓reduceIte, planIds, hasExt, cntFs, idxFs, clnFs, ovlFs, List.contains_cons, List.contains_nil, List.any_cons, List.any_nil, Nat.reduceBEq, setC, List.length_set, decide_eq_true_eq, decide_eq_false_iff_not, true_implies, false_implies, forall_const, reduceCtorEq, eq_self, Int.natCast_nonneg, Int.toNat_natCast, Int.ofNat_lt, D.int.injEq, Option.some.injEq, Nat.zero_add, Nat.add_zero, bne_iff_ne, bne_eq_false_iff_eq, beq_iff_eq, beq_eq_false_iff_ne, gt_iff_lt, ne_eq, not_true_eq_false, not_false_eq_true, planIds, hasExt, cntFs, idxFs, clnFs, ovlFs, List.contains_cons, List.contains_nil, List.any_cons, List.any_nil, Nat.reduceBEq, Nat.reduceMul, Nat.reduceAdd, ↓reduceIte, hal, h0, h3, h8, h9, h10, w3]
    exact ⟨hs1, hr1⟩
  clear hal h0 h3 h8 h9 h10 a
  clear hr1 hs1
  rintro i a T2 hi' ⟨d', j, hal, h0, h3, h8, h9, h12, hj, hs, hr, hq⟩
  cases j with
  | zero =>
    have g : ¬ (0 : Int) ≤ ((0 : Nat) : Int) - 1 := by omega
    simp (maxSteps := 1000000) (disch := omega) only [push_cast, ↓wc_seq, ↓wc_block, ↓wc_scope, ↓wc_condL, ↓wc_region, ↓wr_cons, ↓wr_consgL, ↓wr_nil, ↓wo_pickL, ↓wo_callf, ↓wc_exit, ↓wc_ret, ↓wc_skip, ↓wc_wl, wo_some, wo_none, wo_ite, opQ_eq, seqQ_normal, seqQ_exit, seqQ_ret, blockQ_normal, blockQ_exit, blockQ_ret, iterQ_normal, iterQ_exit, iterQ_ret, retQ_normal, retQ_ret, retQ_exit, pickC_true, pickC_false, pickO_true, pickO_false, gstep_tt, gstep_ff, gstep_tf, gstep_ft, gstep_skip, int_bne, int_beq, decide_not, Nat.reduceAdd, Nat.reduceMul, Nat.reduceSub, Nat.reducePow, Nat.reduceLT, Nat.reduceLeDiff, Nat.reduceEqDiff, Int.reduceToNat, Int.reduceAdd, Int.reduceSub, Int.reduceNeg, Int.reduceMul, Int.reduceLT, Int.reduceLE, Int.reduceEq, le_max, ↓wo_build, ↓wo_buildSlice, evParts, ↓reduceIte, planIds, hasExt, cntFs, idxFs, clnFs, ovlFs, List.contains_cons, List.contains_nil, List.any_cons, List.any_nil, Nat.reduceBEq, setC, List.length_set, decide_eq_true_eq, decide_eq_false_iff_not, true_implies, false_implies, forall_const, reduceCtorEq, eq_self, Int.natCast_nonneg, Int.toNat_natCast, Int.ofNat_lt, D.int.injEq, Option.some.injEq, Nat.zero_add, Nat.add_zero, bne_iff_ne, bne_eq_false_iff_eq, beq_iff_eq, beq_eq_false_iff_ne, gt_iff_lt, ne_eq, not_true_eq_false, not_false_eq_true, planIds, hasExt, cntFs, idxFs, clnFs, ovlFs, List.contains_cons, List.contains_nil, List.any_cons, List.any_nil, Nat.reduceBEq, Nat.reduceMul, Nat.reduceAdd, ↓reduceIte, hal, h0, h3, h8, h9, h12, g, ge_iff_le, Tryd.f79]
    rw [hq, Sort.heapPop]; exact hr
  | succ j =>
    rw [show (((j + 1 : Nat) : Int) - 1) = (j : Int) by omega] at h12
    obtain ⟨p, hp⟩ : ∃ p, p = lo + j := ⟨_, rfl⟩
    have w4 : IntKind.i64.wrap ((lo : Int) + (j : Int)) = (p : Int) := by rw [wrap_ok (by omega) (by omega)]; omega
    have b1 : lo < d.size := by omega
    have b2 : p < d.size := by omega
    have i1 := row_at (val := val) (d := d') (i := lo) (by omega)
    have i2 := row_at (val := val) (d := d') (i := p) (by omega)
    have i3 := row_at (val := val) (d := d'.setIfInBounds lo d'[p]!) (i := p) (by simp; omega)
    have hkl := hr.lt
    have cv : ∀ y, (val y).cells = [val y] := fun y => cells_one (hv y)
    simp only [D.cells] at cv
    have ov := hv
    simp only [D.one] at ov
    have hr2 : R S0 k val (Sort.swp d' lo p) _ := hr.put
    obtain ⟨_, T3, hT3, r3, s3⟩ := sift_d (n := n - 1) (lo := 0) (hi := j) (first := lo) (x := x) hv hC (by rw [swp_size]; omega) (by rw [swp_size]; omega) (by rw [swp_size]; omega) (by omega) hr2
    rw [show n - 1 + 1 = n by omega, swp_size, hs] at hT3
    have hcall := (callD_own (f := 92) rfl pure_own).trans hT3
    simp only [Sort.swp, Int.natCast_zero] at hcall
    simp (maxSteps := 1000000) (disch := omega) only [push_cast, ↓wc_seq, ↓wc_block, ↓wc_scope, ↓wc_condL, ↓wc_region, ↓wr_cons, ↓wr_consgL, ↓wr_nil, ↓wo_pickL, ↓wo_callf, ↓wc_exit, ↓wc_ret, ↓wc_skip, ↓wc_wl, wo_some, wo_none, wo_ite, opQ_eq, seqQ_normal, seqQ_exit, seqQ_ret, blockQ_normal, blockQ_exit, blockQ_ret, iterQ_normal, iterQ_exit, iterQ_ret, retQ_normal, retQ_ret, retQ_exit, pickC_true, pickC_false, pickO_true, pickO_false, gstep_tt, gstep_ff, gstep_tf, gstep_ft, gstep_skip, int_bne, int_beq, decide_not, Nat.reduceAdd, Nat.reduceMul, Nat.reduceSub, Nat.reducePow, Nat.reduceLT, Nat.reduceLeDiff, Nat.reduceEqDiff, Int.reduceToNat, Int.reduceAdd, Int.reduceSub, Int.reduceNeg, Int.reduceMul, Int.reduceLT, Int.reduceLE, Int.reduceEq, le_max, ↓wo_build, ↓wo_buildSlice, evParts, ↓reduceIte, planIds, hasExt, cntFs, idxFs, clnFs, ovlFs, List.contains_cons, List.contains_nil, List.any_cons, List.any_nil, Nat.reduceBEq, setC, List.length_set, decide_eq_true_eq, decide_eq_false_iff_not, true_implies, false_implies, forall_const, reduceCtorEq, eq_self, Int.natCast_nonneg, Int.toNat_natCast, Int.ofNat_lt, D.int.injEq, Option.some.injEq, Nat.zero_add, Nat.add_zero, bne_iff_ne, bne_eq_false_iff_eq, beq_iff_eq, beq_eq_false_iff_ne, gt_iff_lt, ne_eq, not_true_eq_false, not_false_eq_true, planIds, hasExt, cntFs, idxFs, clnFs, ovlFs, List.contains_cons, List.contains_nil, List.any_cons, List.any_nil, Nat.reduceBEq, Nat.reduceMul, Nat.reduceAdd, ↓reduceIte, hal, h0, h3, h8, h9, h12, ge_iff_le, w4, hr.row, sz_el, b1, b2, i1, i2, i3, hkl, cv, ov, row_set, List.set_set, hcall, wrap_ok]
    exact ⟨by omega, _, j, rfl, by omega, by rw [s3, swp_size]; exact hs, r3, by rw [hq, Sort.heapPop, hp]⟩
set_option maxHeartbeats 4000000 in
set_option maxRecDepth 100000 in
theorem rev_d {n lo hi : Nat} {x : Bool} (hv : ∀ x, (val x).one = true) (hn : d.size + 2 ≤ n) (hab : lo < hi) (hb : hi ≤ d.size) (hz : d.size ≤ 100000) (h : R S0 k val d T) :
    WO (dcall E (n + 1) 82 [.os k 0 d.size x, .int .i64 lo, .int .i64 hi, cf] T) fun _ T' => R S0 k val (Sort.reverseRange d lo hi) T' ∧ (Sort.reverseRange d lo hi).size = d.size := by
  refine wo_dcall Tryd.func82 rfl (by decide) rfl 34 rfl (fun a hal ha => ?_)
  have h0 : a[0]? = some (.os k 0 d.size x) := ha 0 (by simp)
  have h1 : a[1]? = some (.int .i64 lo) := ha 1 (by simp)
  have h2 : a[2]? = some (.int .i64 hi) := ha 2 (by simp)
  have h3 : a[3]? = some (cf) := ha 3 (by simp)
  clear ha
  obtain ⟨h1', hh1⟩ : ∃ h1, hi = h1 + 1 := ⟨hi - 1, by omega⟩
  have w1 : IntKind.i64.wrap ((hi : Int) - 1) = (h1' : Int) := by rw [wrap_ok (by omega) (by omega)]; omega
  simp (maxSteps := 1000000) (disch := omega) only [push_cast, ↓wc_seq, ↓wc_block, ↓wc_scope, ↓wc_condL, ↓wc_region, ↓wr_cons, ↓wr_consgL, ↓wr_nil, ↓wo_pickL, ↓wo_callf, ↓wc_exit, ↓wc_ret, ↓wc_skip, ↓wc_wl, wo_some, wo_none, wo_ite, opQ_eq, seqQ_normal, seqQ_exit, seqQ_ret, blockQ_normal, blockQ_exit, blockQ_ret, iterQ_normal, iterQ_exit, iterQ_ret, retQ_normal, retQ_ret, retQ_exit, pickC_true, pickC_false, pickO_true, pickO_false, gstep_tt, gstep_ff, gstep_tf, gstep_ft, gstep_skip, int_bne, int_beq, decide_not, Nat.reduceAdd, Nat.reduceMul, Nat.reduceSub, Nat.reducePow, Nat.reduceLT, Nat.reduceLeDiff, Nat.reduceEqDiff, Int.reduceToNat, Int.reduceAdd, Int.reduceSub, Int.reduceNeg, Int.reduceMul, Int.reduceLT, Int.reduceLE, Int.reduceEq, le_max, ↓wo_build, ↓wo_buildSlice, evParts, ↓reduceIte, planIds, hasExt, cntFs, idxFs, clnFs, ovlFs, List.contains_cons, List.contains_nil, List.any_cons, List.any_nil, Nat.reduceBEq, setC, List.length_set, decide_eq_true_eq, decide_eq_false_iff_not, true_implies, false_implies, forall_const, reduceCtorEq, eq_self, Int.natCast_nonneg, Int.toNat_natCast, Int.ofNat_lt, D.int.injEq, Option.some.injEq, Nat.zero_add, Nat.add_zero, bne_iff_ne, bne_eq_false_iff_eq, beq_iff_eq, beq_eq_false_iff_ne, gt_iff_lt, ne_eq, not_true_eq_false, not_false_eq_true, planIds, hasExt, cntFs, idxFs, clnFs, ovlFs, List.contains_cons, List.contains_nil, List.any_cons, List.any_nil, Nat.reduceBEq, Nat.reduceMul, Nat.reduceAdd, ↓reduceIte, hal, h0, h1, h2, h3, w1]
  refine wl_loop (fun i a T' => ∃ (d' : Array α) (p q : Nat), a.length = 34 ∧ a[0]? = some (.os k 0 d.size x) ∧ a[8]? = some (.int .i64 p) ∧ a[9]? = some (.int .i64 q) ∧ (p = lo + i ∧ q + i = h1' ∧ i ≤ h1') ∧ d'.size = d.size ∧ R S0 k val d' T' ∧ Sort.reverseRange d lo hi = Sort.reverseLoop p q d') h1' ?_ (by omega) ?_
  · refine ⟨d, lo, h1', ?_⟩
    simp (maxSteps := 1000000) (disch := omega) only [push_cast, ↓wc_seq, ↓wc_block, ↓wc_scope, ↓wc_condL, ↓wc_region, ↓wr_cons, ↓wr_consgL, ↓wr_nil, ↓wo_pickL, ↓wo_callf, ↓wc_exit, ↓wc_ret, ↓wc_skip, ↓wc_wl, wo_some, wo_none, wo_ite, opQ_eq, seqQ_normal, seqQ_exit, seqQ_ret, blockQ_normal, blockQ_exit, blockQ_ret, iterQ_normal, iterQ_exit, iterQ_ret, retQ_normal, retQ_ret, retQ_exit, pickC_true, pickC_false, pickO_true, pickO_false, gstep_tt, gstep_ff, gstep_tf, gstep_ft, gstep_skip, int_bne, int_beq, decide_not, Nat.reduceAdd, Nat.reduceMul, Nat.reduceSub, Nat.reducePow, Nat.reduceLT, Nat.reduceLeDiff, Nat.reduceEqDiff, Int.reduceToNat, Int.reduceAdd, Int.reduceSub, Int.reduceNeg, Int.reduceMul, Int.reduceLT, Int.reduceLE, Int.reduceEq, le_max, ↓wo_build, ↓wo_buildSlice, evParts, ↓reduceIte, planIds, hasExt, cntFs, idxFs, clnFs, ovlFs, List.contains_cons, List.contains_nil, List.any_cons, List.any_nil, Nat.reduceBEq, setC, List.length_set, decide_eq_true_eq, decide_eq_false_iff_not, true_implies, false_implies, forall_const, reduceCtorEq, eq_self, Int.natCast_nonneg, Int.toNat_natCast, Int.ofNat_lt, D.int.injEq, Option.some.injEq, Nat.zero_add, Nat.add_zero, bne_iff_ne, bne_eq_false_iff_eq, beq_iff_eq, beq_eq_false_iff_ne, gt_iff_lt, ne_eq, not_true_eq_false, not_false_eq_true, planIds, hasExt, cntFs, idxFs, clnFs, ovlFs, List.contains_cons, List.contains_nil, List.any_cons, List.any_nil, Nat.reduceBEq, Nat.reduceMul, Nat.reduceAdd, ↓reduceIte, hal, h0, h1, h2, h3, w1]
    exact ⟨by omega, h, by rw [Sort.reverseRange, hh1, Nat.add_sub_cancel]⟩
  clear hal h0 h1 h2 h3 a
  rintro i a T2 hi' ⟨d', p, q, hal, h0, h8, h9, ⟨hp, hq, hi2⟩, hs, hr, he⟩
  by_cases g : p < q
  case neg =>
    rw [Sort.reverseLoop, if_neg g] at he
    simp (maxSteps := 1000000) (disch := omega) only [push_cast, ↓wc_seq, ↓wc_block, ↓wc_scope, ↓wc_condL, ↓wc_region, ↓wr_cons, ↓wr_consgL, ↓wr_nil, ↓wo_pickL, ↓wo_callf, ↓wc_exit, ↓wc_ret, ↓wc_skip, ↓wc_wl, wo_some, wo_none, wo_ite, opQ_eq, seqQ_normal, seqQ_exit, seqQ_ret, blockQ_normal, blockQ_exit, blockQ_ret, iterQ_normal, iterQ_exit, iterQ_ret, retQ_normal, retQ_ret, retQ_exit, pickC_true, pickC_false, pickO_true, pickO_false, gstep_tt, gstep_ff, gstep_tf, gstep_ft, gstep_skip, int_bne, int_beq, decide_not, Nat.reduceAdd, Nat.reduceMul, Nat.reduceSub, Nat.reducePow, Nat.reduceLT, Nat.reduceLeDiff, Nat.reduceEqDiff, Int.reduceToNat, Int.reduceAdd, Int.reduceSub, Int.reduceNeg, Int.reduceMul, Int.reduceLT, Int.reduceLE, Int.reduceEq, le_max, ↓wo_build, ↓wo_buildSlice, evParts, ↓reduceIte, planIds, hasExt, cntFs, idxFs, clnFs, ovlFs, List.contains_cons, List.contains_nil, List.any_cons, List.any_nil, Nat.reduceBEq, setC, List.length_set, decide_eq_true_eq, decide_eq_false_iff_not, true_implies, false_implies, forall_const, reduceCtorEq, eq_self, Int.natCast_nonneg, Int.toNat_natCast, Int.ofNat_lt, D.int.injEq, Option.some.injEq, Nat.zero_add, Nat.add_zero, bne_iff_ne, bne_eq_false_iff_eq, beq_iff_eq, beq_eq_false_iff_ne, gt_iff_lt, ne_eq, not_true_eq_false, not_false_eq_true, planIds, hasExt, cntFs, idxFs, clnFs, ovlFs, List.contains_cons, List.contains_nil, List.any_cons, List.any_nil, Nat.reduceBEq, Nat.reduceMul, Nat.reduceAdd, ↓reduceIte, hal, h0, h8, h9, g, Tryd.f82]
    rw [he]; exact ⟨hr, hs⟩
  rw [Sort.reverseLoop, if_pos g] at he
  obtain ⟨q', hq'⟩ : ∃ q', q = q' + 1 := ⟨q - 1, by omega⟩
  have w2 : IntKind.i64.wrap ((q : Int) - 1) = (q' : Int) := by rw [wrap_ok (by omega) (by omega)]; omega
  have b1 : p < d.size := by omega
  have b2 : q < d.size := by omega
  have i1 := row_at (val := val) (d := d') (i := p) (by omega)
  have i2 := row_at (val := val) (d := d') (i := q) (by omega)
  have i3 := row_at (val := val) (d := d'.setIfInBounds p d'[q]!) (i := q) (by simp; omega)
  have hkl := hr.lt
  have cv : ∀ y, (val y).cells = [val y] := fun y => cells_one (hv y)
  simp only [D.cells] at cv
  have ov := hv
  simp only [D.one] at ov
  simp (maxSteps := 1000000) (disch := omega) only [push_cast, ↓wc_seq, ↓wc_block, ↓wc_scope, ↓wc_condL, ↓wc_region, ↓wr_cons, ↓wr_consgL, ↓wr_nil, ↓wo_pickL, ↓wo_callf, ↓wc_exit, ↓wc_ret, ↓wc_skip, ↓wc_wl, wo_some, wo_none, wo_ite, opQ_eq, seqQ_normal, seqQ_exit, seqQ_ret, blockQ_normal, blockQ_exit, blockQ_ret, iterQ_normal, iterQ_exit, iterQ_ret, retQ_normal, retQ_ret, retQ_exit, pickC_true, pickC_false, pickO_true, pickO_false, gstep_tt, gstep_ff, gstep_tf, gstep_ft, gstep_skip, int_bne, int_beq, decide_not, Nat.reduceAdd, Nat.reduceMul, Nat.reduceSub, Nat.reducePow, Nat.reduceLT, Nat.reduceLeDiff, Nat.reduceEqDiff, Int.reduceToNat, Int.reduceAdd, Int.reduceSub, Int.reduceNeg, Int.reduceMul, Int.reduceLT, Int.reduceLE, Int.reduceEq, le_max, ↓wo_build, ↓wo_buildSlice, evParts, ↓reduceIte, planIds, hasExt, cntFs, idxFs, clnFs, ovlFs, List.contains_cons, List.contains_nil, List.any_cons, List.any_nil, Nat.reduceBEq, setC, List.length_set, decide_eq_true_eq, decide_eq_false_iff_not, true_implies, false_implies, forall_const, reduceCtorEq, eq_self, Int.natCast_nonneg, Int.toNat_natCast, Int.ofNat_lt, D.int.injEq, Option.some.injEq, Nat.zero_add, Nat.add_zero, bne_iff_ne, bne_eq_false_iff_eq, beq_iff_eq, beq_eq_false_iff_ne, gt_iff_lt, ne_eq, not_true_eq_false, not_false_eq_true, planIds, hasExt, cntFs, idxFs, clnFs, ovlFs, List.contains_cons, List.contains_nil, List.any_cons, List.any_nil, Nat.reduceBEq, Nat.reduceMul, Nat.reduceAdd, ↓reduceIte, hal, h0, h8, h9, g, w2, hr.row, sz_el, b1, b2, i1, i2, i3, hkl, cv, ov, row_set, List.set_set, wrap_ok]
  exact ⟨by omega, Sort.swp d' p q, p + 1, q', by simp only [Int.natCast_add, Int.natCast_one], rfl, ⟨by omega, by omega, by omega⟩, by rw [swp_size]; exact hs, hr.put, by rw [he, hq', Nat.add_sub_cancel]⟩
end Srt
end Go.Proofs.YtgomkmamgflbeaaDoor.Dm
