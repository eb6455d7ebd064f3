/-
  The walk of WaitlistRoom.
-/
import Derived.Test.YtajhgnefcddenaaDoorWlR
import Derived.Test.YtajhgnefcddenaaDoorWlD
namespace Go.Proofs.YtajhgnefcddenaaDoor.Dm
open Go Gw
set_option linter.unusedSimpArgs false
set_option linter.unusedSimpArgs false

theorem mod20 (x : Int) : 1 ≤ IntKind.i64.wrap (1 + IntKind.i64.wrap ((IntKind.u64.wrap x).tmod 20)) ∧ IntKind.i64.wrap (1 + IntKind.i64.wrap ((IntKind.u64.wrap x).tmod 20)) ≤ 20 := by
  have h0 : 0 ≤ IntKind.u64.wrap x := Int.emod_nonneg _ (by decide)
  rw [Int.tmod_eq_emod_of_nonneg h0]
  have h1 := Int.emod_nonneg (IntKind.u64.wrap x) (show (20 : Int) ≠ 0 by decide)
  have h2 := Int.emod_lt_of_pos (IntKind.u64.wrap x) (show (0 : Int) < 20 by decide)
  rw [wrap_ok (x := IntKind.u64.wrap x % 20) (by omega) (by omega), wrap_ok (by omega) (by omega)]
  omega
def xwR (w : Int) : Wt := ⟨1, [legR], true, yS, w, 0⟩
set_option maxHeartbeats 8000000 in
set_option maxRecDepth 100000 in
theorem WaitlistRoom_d {n : Nat} (hn : 1000 ≤ n) {cc nn : Int} :
    ∃ T, dcall E (n + 1) 4 [.int .i64 cc, .int .i64 nn] [] = some (.bool true, T) := by
  have cw := fun st S => awake19_n (n := n) (by omega) st S
  have : WO (dcall E (n + 1) 4 [.int .i64 cc, .int .i64 nn] []) fun r T => r = .bool true := by
    refine wo_dcall Tryd.func4 rfl (by decide) rfl 118 rfl (fun a hal ha => ?_)
    have h0 : a[0]? = some (.int .i64 cc) := ha 0 (by simp)
    have h1 : a[1]? = some (.int .i64 nn) := ha 1 (by simp)
    clear ha
    refine wc_scut (fun a T => T = [] ∧ a.length = 118 ∧ a[0]? = some (.int .i64 cc) ∧ a[1]? = some (.int .i64 nn)) ?_ ?_
    · simp (maxSteps := 1000000) (disch := omega) only [push_cast, ↓wc_seq, ↓wc_block, ↓wc_scope, ↓wc_condL, ↓wc_region, ↓wr_cons, ↓wr_consgL, ↓wr_nil, ↓wo_pickL, ↓wo_callf, ↓wc_exit, ↓wc_ret, ↓wc_skip, ↓wc_wl, wo_some, wo_none, wo_ite, opQ_eq, seqQ_normal, seqQ_exit, seqQ_ret, blockQ_normal, blockQ_exit, blockQ_ret, iterQ_normal, iterQ_exit, iterQ_ret, retQ_normal, retQ_ret, retQ_exit, pickC_true, pickC_false, pickO_true, pickO_false, gstep_tt, gstep_ff, gstep_tf, gstep_ft, gstep_skip, int_bne, int_beq, decide_not, Nat.reduceAdd, Nat.reduceMul, Nat.reduceSub, Nat.reducePow, Nat.reduceLT, Nat.reduceLeDiff, Nat.reduceEqDiff, Int.reduceToNat, Int.reduceAdd, Int.reduceSub, Int.reduceNeg, Int.reduceMul, Int.reduceLT, Int.reduceLE, Int.reduceEq, le_max, ↓wo_build, ↓wo_buildSlice, evParts, ↓reduceIte, planIds, hasExt, cntFs, idxFs, clnFs, ovlFs, List.contains_cons, List.contains_nil, List.any_cons, List.any_nil, Nat.reduceBEq, setC, List.length_set, decide_eq_true_eq, decide_eq_false_iff_not, true_implies, false_implies, forall_const, reduceCtorEq, eq_self, Int.natCast_nonneg, Int.toNat_natCast, Int.ofNat_lt, D.int.injEq, Option.some.injEq, Nat.zero_add, Nat.add_zero, bne_iff_ne, bne_eq_false_iff_eq, beq_iff_eq, beq_eq_false_iff_ne, gt_iff_lt, ne_eq, not_true_eq_false, not_false_eq_true, hal, h0, h1]
    clear hal h0 h1 a
    rintro a T ⟨rfl, hal, h0, h1⟩
    refine wc_scut (fun a T => T = [] ∧ ∃ c w : Int, 1 ≤ c ∧ c ≤ 20 ∧ 1 ≤ w ∧ w ≤ 20 ∧ a.length = 118 ∧ a[5]? = some (.int .i64 c) ∧ a[6]? = some (.int .i64 w)) ?_ ?_
    · simp (maxSteps := 1000000) (disch := omega) only [push_cast, ↓wc_seq, ↓wc_block, ↓wc_scope, ↓wc_condL, ↓wc_region, ↓wr_cons, ↓wr_consgL, ↓wr_nil, ↓wo_pickL, ↓wo_callf, ↓wc_exit, ↓wc_ret, ↓wc_skip, ↓wc_wl, wo_some, wo_none, wo_ite, opQ_eq, seqQ_normal, seqQ_exit, seqQ_ret, blockQ_normal, blockQ_exit, blockQ_ret, iterQ_normal, iterQ_exit, iterQ_ret, retQ_normal, retQ_ret, retQ_exit, pickC_true, pickC_false, pickO_true, pickO_false, gstep_tt, gstep_ff, gstep_tf, gstep_ft, gstep_skip, int_bne, int_beq, decide_not, Nat.reduceAdd, Nat.reduceMul, Nat.reduceSub, Nat.reducePow, Nat.reduceLT, Nat.reduceLeDiff, Nat.reduceEqDiff, Int.reduceToNat, Int.reduceAdd, Int.reduceSub, Int.reduceNeg, Int.reduceMul, Int.reduceLT, Int.reduceLE, Int.reduceEq, le_max, ↓wo_build, ↓wo_buildSlice, evParts, ↓reduceIte, planIds, hasExt, cntFs, idxFs, clnFs, ovlFs, List.contains_cons, List.contains_nil, List.any_cons, List.any_nil, Nat.reduceBEq, setC, List.length_set, decide_eq_true_eq, decide_eq_false_iff_not, true_implies, false_implies, forall_const, reduceCtorEq, eq_self, Int.natCast_nonneg, Int.toNat_natCast, Int.ofNat_lt, D.int.injEq, Option.some.injEq, Nat.zero_add, Nat.add_zero, bne_iff_ne, bne_eq_false_iff_eq, beq_iff_eq, beq_eq_false_iff_ne, gt_iff_lt, ne_eq, not_true_eq_false, not_false_eq_true, hal, h0, h1]
      exact ⟨_, _, (mod20 cc).1, (mod20 cc).2, (mod20 nn).1, (mod20 nn).2, rfl, rfl⟩
    clear hal h0 h1 a
    rintro a T ⟨rfl, c, w, hc1, hc2, hw1, hw2, hal, h5, h6⟩
    obtain ⟨T1, lab1, p, cn, s1, -⟩ := New_c (S := []) (lab := fun _ => []) (o := 1) (n := n) (lx := true) (l := [cfgR c]) (by omega) (good_R (by omega) hc1 hc2) (fun _ _ => rfl)
    obtain ⟨T2, lab2, co, s2, -⟩ := SOpen_c (n := n) (id := legR) (by omega) s1 (by simp) (good_R (n := n) (by omega) hc1 hc2).ok legR_ok eqpR
    rw [open_R] at co s2
    obtain ⟨T3, lab3, ce, s3, -⟩ := Sell_c (n := n) (ids := [legR]) (by omega) s2 (ok_R hc1 hc2 (Int.le_refl 0) (by omega)) (by simp) (fun id hid => by rw [List.mem_singleton] at hid; rw [hid]; exact legR_ok) (di := .sl 4 [legR.enc] true) (.inr ⟨true, rfl⟩) yS c
    rw [sell_R hc1 (by omega), Int.zero_add] at ce s3
    obtain ⟨T4, cwn, l4, o4, hT4⟩ := WNew_c (n := n) (S := T3) (st := false) (by omega)
    obtain ⟨T5, cj, ⟨q, q1, q2, q3⟩, hb5⟩ := JoinS (n := n) (x := xwR w) (w := legR) (by omega) rfl (Int.le_refl 1) hw1 (by show w ≤ 99; omega) l4
    have f3 := s3.1
    have s4 : SAt T4 lab3 1 p (stR c c) := by rw [hT4]; exact s3.push _
    have s5 := s4.but (f3 _ (Nat.le_refl _)) hb5
    have o5 : OneL T5 lab3 T3.length { xwR w with legsx := false } := ⟨q, q2, q3, f3 _ (Nat.le_refl _), f3 _ (by rw [hT4] at q1; simp at q1; omega)⟩
    generalize hkl : T3.length = kl at *
    refine wc_scut (fun a T => T = T1 ∧ a.length = 118 ∧ a[5]? = some (.int .i64 c) ∧ a[6]? = some (.int .i64 w) ∧ a[7]? = some (.loc p 0 0)) ?_ ?_
    · simp only [cfgR, Cfg.enc, Cab.enc, Cls.enc, yS, eqpR, List.map_cons, List.map_nil] at cn
      simp (maxSteps := 1000000) (disch := omega) only [push_cast, ↓wc_seq, ↓wc_block, ↓wc_scope, ↓wc_condL, ↓wc_region, ↓wr_cons, ↓wr_consgL, ↓wr_nil, ↓wo_pickL, ↓wo_callf, ↓wc_exit, ↓wc_ret, ↓wc_skip, ↓wc_wl, wo_some, wo_none, wo_ite, opQ_eq, seqQ_normal, seqQ_exit, seqQ_ret, blockQ_normal, blockQ_exit, blockQ_ret, iterQ_normal, iterQ_exit, iterQ_ret, retQ_normal, retQ_ret, retQ_exit, pickC_true, pickC_false, pickO_true, pickO_false, gstep_tt, gstep_ff, gstep_tf, gstep_ft, gstep_skip, int_bne, int_beq, decide_not, Nat.reduceAdd, Nat.reduceMul, Nat.reduceSub, Nat.reducePow, Nat.reduceLT, Nat.reduceLeDiff, Nat.reduceEqDiff, Int.reduceToNat, Int.reduceAdd, Int.reduceSub, Int.reduceNeg, Int.reduceMul, Int.reduceLT, Int.reduceLE, Int.reduceEq, le_max, ↓wo_build, ↓wo_buildSlice, evParts, ↓reduceIte, planIds, hasExt, cntFs, idxFs, clnFs, ovlFs, List.contains_cons, List.contains_nil, List.any_cons, List.any_nil, Nat.reduceBEq, setC, List.length_set, decide_eq_true_eq, decide_eq_false_iff_not, true_implies, false_implies, forall_const, reduceCtorEq, eq_self, Int.natCast_nonneg, Int.toNat_natCast, Int.ofNat_lt, D.int.injEq, Option.some.injEq, Nat.zero_add, Nat.add_zero, bne_iff_ne, bne_eq_false_iff_eq, beq_iff_eq, beq_eq_false_iff_ne, gt_iff_lt, ne_eq, not_true_eq_false, not_false_eq_true, hal, h5, h6, cn]
    clear hal h5 h6 a
    rintro a T ⟨rfl, hal, h5, h6, h7⟩
    have cj' := cj false
    simp only [legR, Lid.enc, yS, eqpR, Wt.enc, xwR, List.map_cons, List.map_nil] at co ce cj'
    simp (maxSteps := 1000000) (disch := omega) only [push_cast, ↓wc_seq, ↓wc_block, ↓wc_scope, ↓wc_condL, ↓wc_region, ↓wr_cons, ↓wr_consgL, ↓wr_nil, ↓wo_pickL, ↓wo_callf, ↓wc_exit, ↓wc_ret, ↓wc_skip, ↓wc_wl, wo_some, wo_none, wo_ite, opQ_eq, seqQ_normal, seqQ_exit, seqQ_ret, blockQ_normal, blockQ_exit, blockQ_ret, iterQ_normal, iterQ_exit, iterQ_ret, retQ_normal, retQ_ret, retQ_exit, pickC_true, pickC_false, pickO_true, pickO_false, gstep_tt, gstep_ff, gstep_tf, gstep_ft, gstep_skip, int_bne, int_beq, decide_not, Nat.reduceAdd, Nat.reduceMul, Nat.reduceSub, Nat.reducePow, Nat.reduceLT, Nat.reduceLeDiff, Nat.reduceEqDiff, Int.reduceToNat, Int.reduceAdd, Int.reduceSub, Int.reduceNeg, Int.reduceMul, Int.reduceLT, Int.reduceLE, Int.reduceEq, le_max, ↓wo_build, ↓wo_buildSlice, evParts, ↓reduceIte, planIds, hasExt, cntFs, idxFs, clnFs, ovlFs, List.contains_cons, List.contains_nil, List.any_cons, List.any_nil, Nat.reduceBEq, setC, List.length_set, decide_eq_true_eq, decide_eq_false_iff_not, true_implies, false_implies, forall_const, reduceCtorEq, eq_self, Int.natCast_nonneg, Int.toNat_natCast, Int.ofNat_lt, D.int.injEq, Option.some.injEq, Nat.zero_add, Nat.add_zero, bne_iff_ne, bne_eq_false_iff_eq, beq_iff_eq, beq_eq_false_iff_ne, gt_iff_lt, ne_eq, not_true_eq_false, not_false_eq_true, hal, h5, h6, h7, co, ce, cwn, cj', List.getElem?_cons_zero]
    refine wl_loop (fun i a T => ((i : Int) < w ∧ ∃ lab, SAt T lab 1 p (stR c (c - i)) ∧ OneL T lab kl { xwR w with legsx := false }) ∧ a.length = 118 ∧ a[5]? = some (.int .i64 c) ∧ a[6]? = some (.int .i64 w) ∧ a[7]? = some (.loc p 0 0) ∧ a[9]? = some (.sl 4 [legR.enc] true) ∧ a[10]? = some (.loc kl 0 0) ∧ a[11]? = some (.int .i64 (i + 1))) c.toNat ?_ (by omega) ?_
    · simp (maxSteps := 1000000) (disch := omega) only [push_cast, ↓wc_seq, ↓wc_block, ↓wc_scope, ↓wc_condL, ↓wc_region, ↓wr_cons, ↓wr_consgL, ↓wr_nil, ↓wo_pickL, ↓wo_callf, ↓wc_exit, ↓wc_ret, ↓wc_skip, ↓wc_wl, wo_some, wo_none, wo_ite, opQ_eq, seqQ_normal, seqQ_exit, seqQ_ret, blockQ_normal, blockQ_exit, blockQ_ret, iterQ_normal, iterQ_exit, iterQ_ret, retQ_normal, retQ_ret, retQ_exit, pickC_true, pickC_false, pickO_true, pickO_false, gstep_tt, gstep_ff, gstep_tf, gstep_ft, gstep_skip, int_bne, int_beq, decide_not, Nat.reduceAdd, Nat.reduceMul, Nat.reduceSub, Nat.reducePow, Nat.reduceLT, Nat.reduceLeDiff, Nat.reduceEqDiff, Int.reduceToNat, Int.reduceAdd, Int.reduceSub, Int.reduceNeg, Int.reduceMul, Int.reduceLT, Int.reduceLE, Int.reduceEq, le_max, ↓wo_build, ↓wo_buildSlice, evParts, ↓reduceIte, planIds, hasExt, cntFs, idxFs, clnFs, ovlFs, List.contains_cons, List.contains_nil, List.any_cons, List.any_nil, Nat.reduceBEq, setC, List.length_set, decide_eq_true_eq, decide_eq_false_iff_not, true_implies, false_implies, forall_const, reduceCtorEq, eq_self, Int.natCast_nonneg, Int.toNat_natCast, Int.ofNat_lt, D.int.injEq, Option.some.injEq, Nat.zero_add, Nat.add_zero, bne_iff_ne, bne_eq_false_iff_eq, beq_iff_eq, beq_eq_false_iff_ne, gt_iff_lt, ne_eq, not_true_eq_false, not_false_eq_true, hal, h5, h6, h7, Int.natCast_zero, Int.sub_zero, legR, Lid.enc, Int.zero_add]
      exact ⟨by omega, lab3, s5, o5⟩
    clear hal h5 h6 h7 a
    rintro i a T hi ⟨⟨hiw, lab, hs, ho⟩, hal, h5, h6, h7, h9, h10, h11⟩
    have hcn : (c.toNat : Int) = c := by omega
    have hic : (i : Int) ≤ c := by omega
    have okk := ok_R (c := c) (k := c - i) hc1 hc2 (by omega) (by omega)
    have hleft : (stR c (c - i)).left legR yS < ({ xwR w with legsx := false } : Wt).cnt := by
      rw [left_R]
      show _ < w
      omega
    obtain ⟨J1, cc1⟩ := ClearNo (n := n) (w := legR) (by omega) rfl legR_ok hs okk hleft ho.one
    have s1' := hs.push J1
    have o1' := ho.push J1
    rcases Nat.lt_or_eq_of_le hi with hlt | rfl
    case inr =>
      have e1 : ¬ ((c.toNat : Int) + 1 ≤ c) := by omega
      have e2 : c < w := by omega
      simp (maxSteps := 1000000) (disch := omega) only [push_cast, ↓wc_seq, ↓wc_block, ↓wc_scope, ↓wc_condL, ↓wc_region, ↓wr_cons, ↓wr_consgL, ↓wr_nil, ↓wo_pickL, ↓wo_callf, ↓wc_exit, ↓wc_ret, ↓wc_skip, ↓wc_wl, wo_some, wo_none, wo_ite, opQ_eq, seqQ_normal, seqQ_exit, seqQ_ret, blockQ_normal, blockQ_exit, blockQ_ret, iterQ_normal, iterQ_exit, iterQ_ret, retQ_normal, retQ_ret, retQ_exit, pickC_true, pickC_false, pickO_true, pickO_false, gstep_tt, gstep_ff, gstep_tf, gstep_ft, gstep_skip, int_bne, int_beq, decide_not, Nat.reduceAdd, Nat.reduceMul, Nat.reduceSub, Nat.reducePow, Nat.reduceLT, Nat.reduceLeDiff, Nat.reduceEqDiff, Int.reduceToNat, Int.reduceAdd, Int.reduceSub, Int.reduceNeg, Int.reduceMul, Int.reduceLT, Int.reduceLE, Int.reduceEq, le_max, ↓wo_build, ↓wo_buildSlice, evParts, ↓reduceIte, planIds, hasExt, cntFs, idxFs, clnFs, ovlFs, List.contains_cons, List.contains_nil, List.any_cons, List.any_nil, Nat.reduceBEq, setC, List.length_set, decide_eq_true_eq, decide_eq_false_iff_not, true_implies, false_implies, forall_const, reduceCtorEq, eq_self, Int.natCast_nonneg, Int.toNat_natCast, Int.ofNat_lt, D.int.injEq, Option.some.injEq, Nat.zero_add, Nat.add_zero, bne_iff_ne, bne_eq_false_iff_eq, beq_iff_eq, beq_eq_false_iff_ne, gt_iff_lt, ne_eq, not_true_eq_false, not_false_eq_true, hal, h5, h6, h7, h9, h10, h11, e1, e2, cc1, cw, Int.natCast_zero, Tryd.f4]
    have e1 : (i : Int) + 1 ≤ c := by omega
    obtain ⟨V, labV, cca, sV, gV⟩ := Cancel_c (n := n) (ids := [legR]) (by omega) s1' okk (by simp) (fun id hid => by rw [List.mem_singleton] at hid; rw [hid]; exact legR_ok) (di := .sl 4 [legR.enc] true) (.inr ⟨true, rfl⟩) yS 1
    rw [cancel_R (by omega)] at cca sV
    have oV := o1'.step gV
    have cca' := cca
    simp only [yS] at cca'
    by_cases hw : (i : Int) + 1 = w
    · have okV := ok_R (c := c) (k := c - i - 1) hc1 hc2 (by omega) (by omega)
      have hge : ¬ (stR c (c - i - 1)).left legR yS < ({ xwR w with legsx := false } : Wt).cnt := by
        rw [left_R]
        show ¬ _ < w
        omega
      have hsell : (stR c (c - i - 1)).sell [legR] yS w = (0, stR c (c - i - 1 + w)) := sell_R hw1 (by omega)
      obtain ⟨q', V2, lab2', cc2, v1, v2, v3⟩ := ClearYes (n := n) (w := legR) (by omega) rfl legR_ok sV okV hge hsell oV
      have cor := fun st => OrderG (n := n) (st := st) (by omega) v2
      have okV2 := ok_R (c := c) (k := c - i - 1 + w) hc1 hc2 (by omega) (by omega)
      have clf := fun st => SLeft_c (n := n) (by omega) v3 okV2 legR_ok yS st
      rw [left_R, show max 0 (c - (c - (i : Int) - 1 + w)) = 0 by omega] at clf
      simp only [yS, Wt.enc, xwR, legR, Lid.enc, List.map_cons, List.map_nil] at clf v1 cca' h9
      have e1w : w ≤ c := by omega
      simp (maxSteps := 1000000) (disch := omega) only [push_cast, ↓wc_seq, ↓wc_block, ↓wc_scope, ↓wc_condL, ↓wc_region, ↓wr_cons, ↓wr_consgL, ↓wr_nil, ↓wo_pickL, ↓wo_callf, ↓wc_exit, ↓wc_ret, ↓wc_skip, ↓wc_wl, wo_some, wo_none, wo_ite, opQ_eq, seqQ_normal, seqQ_exit, seqQ_ret, blockQ_normal, blockQ_exit, blockQ_ret, iterQ_normal, iterQ_exit, iterQ_ret, retQ_normal, retQ_ret, retQ_exit, pickC_true, pickC_false, pickO_true, pickO_false, gstep_tt, gstep_ff, gstep_tf, gstep_ft, gstep_skip, int_bne, int_beq, decide_not, Nat.reduceAdd, Nat.reduceMul, Nat.reduceSub, Nat.reducePow, Nat.reduceLT, Nat.reduceLeDiff, Nat.reduceEqDiff, Int.reduceToNat, Int.reduceAdd, Int.reduceSub, Int.reduceNeg, Int.reduceMul, Int.reduceLT, Int.reduceLE, Int.reduceEq, le_max, ↓wo_build, ↓wo_buildSlice, evParts, ↓reduceIte, planIds, hasExt, cntFs, idxFs, clnFs, ovlFs, List.contains_cons, List.contains_nil, List.any_cons, List.any_nil, Nat.reduceBEq, setC, List.length_set, decide_eq_true_eq, decide_eq_false_iff_not, true_implies, false_implies, forall_const, reduceCtorEq, eq_self, Int.natCast_nonneg, Int.toNat_natCast, Int.ofNat_lt, D.int.injEq, Option.some.injEq, Nat.zero_add, Nat.add_zero, bne_iff_ne, bne_eq_false_iff_eq, beq_iff_eq, beq_eq_false_iff_ne, gt_iff_lt, ne_eq, not_true_eq_false, not_false_eq_true, hal, h5, h6, h7, h9, h10, h11, e1w, hw, cc1, cca', cc2, v1, cor, clf, cw, Int.natCast_one, Int.natCast_zero, List.length_nil, List.getElem?_cons_zero, Tryd.f4]
    · simp (maxSteps := 1000000) (disch := omega) only [push_cast, ↓wc_seq, ↓wc_block, ↓wc_scope, ↓wc_condL, ↓wc_region, ↓wr_cons, ↓wr_consgL, ↓wr_nil, ↓wo_pickL, ↓wo_callf, ↓wc_exit, ↓wc_ret, ↓wc_skip, ↓wc_wl, wo_some, wo_none, wo_ite, opQ_eq, seqQ_normal, seqQ_exit, seqQ_ret, blockQ_normal, blockQ_exit, blockQ_ret, iterQ_normal, iterQ_exit, iterQ_ret, retQ_normal, retQ_ret, retQ_exit, pickC_true, pickC_false, pickO_true, pickO_false, gstep_tt, gstep_ff, gstep_tf, gstep_ft, gstep_skip, int_bne, int_beq, decide_not, Nat.reduceAdd, Nat.reduceMul, Nat.reduceSub, Nat.reducePow, Nat.reduceLT, Nat.reduceLeDiff, Nat.reduceEqDiff, Int.reduceToNat, Int.reduceAdd, Int.reduceSub, Int.reduceNeg, Int.reduceMul, Int.reduceLT, Int.reduceLE, Int.reduceEq, le_max, ↓wo_build, ↓wo_buildSlice, evParts, ↓reduceIte, planIds, hasExt, cntFs, idxFs, clnFs, ovlFs, List.contains_cons, List.contains_nil, List.any_cons, List.any_nil, Nat.reduceBEq, setC, List.length_set, decide_eq_true_eq, decide_eq_false_iff_not, true_implies, false_implies, forall_const, reduceCtorEq, eq_self, Int.natCast_nonneg, Int.toNat_natCast, Int.ofNat_lt, D.int.injEq, Option.some.injEq, Nat.zero_add, Nat.add_zero, bne_iff_ne, bne_eq_false_iff_eq, beq_iff_eq, beq_eq_false_iff_ne, gt_iff_lt, ne_eq, not_true_eq_false, not_false_eq_true, hal, h5, h6, h7, h9, h10, h11, e1, hw, cc1, cca', Int.natCast_zero, List.length_nil, Int.natCast_add, Int.natCast_one, wrap_ok]
      rw [cca']
      simp (maxSteps := 1000000) (disch := omega) only [push_cast, ↓wc_seq, ↓wc_block, ↓wc_scope, ↓wc_condL, ↓wc_region, ↓wr_cons, ↓wr_consgL, ↓wr_nil, ↓wo_pickL, ↓wo_callf, ↓wc_exit, ↓wc_ret, ↓wc_skip, ↓wc_wl, wo_some, wo_none, wo_ite, opQ_eq, seqQ_normal, seqQ_exit, seqQ_ret, blockQ_normal, blockQ_exit, blockQ_ret, iterQ_normal, iterQ_exit, iterQ_ret, retQ_normal, retQ_ret, retQ_exit, pickC_true, pickC_false, pickO_true, pickO_false, gstep_tt, gstep_ff, gstep_tf, gstep_ft, gstep_skip, int_bne, int_beq, decide_not, Nat.reduceAdd, Nat.reduceMul, Nat.reduceSub, Nat.reducePow, Nat.reduceLT, Nat.reduceLeDiff, Nat.reduceEqDiff, Int.reduceToNat, Int.reduceAdd, Int.reduceSub, Int.reduceNeg, Int.reduceMul, Int.reduceLT, Int.reduceLE, Int.reduceEq, le_max, ↓wo_build, ↓wo_buildSlice, evParts, ↓reduceIte, planIds, hasExt, cntFs, idxFs, clnFs, ovlFs, List.contains_cons, List.contains_nil, List.any_cons, List.any_nil, Nat.reduceBEq, setC, List.length_set, decide_eq_true_eq, decide_eq_false_iff_not, true_implies, false_implies, forall_const, reduceCtorEq, eq_self, Int.natCast_nonneg, Int.toNat_natCast, Int.ofNat_lt, D.int.injEq, Option.some.injEq, Nat.zero_add, Nat.add_zero, bne_iff_ne, bne_eq_false_iff_eq, beq_iff_eq, beq_eq_false_iff_ne, gt_iff_lt, ne_eq, not_true_eq_false, not_false_eq_true, hal, h5, h6, h7, h9, h10, h11, e1, hw, Int.natCast_zero, List.length_nil, Int.natCast_add, Int.natCast_one, wrap_ok]
      refine ⟨hlt, by omega, labV, ?_, oV⟩
      rw [show c - ((i : Int) + 1) = c - i - 1 by omega]
      exact sV
  obtain ⟨_, T, ho, rfl⟩ := this
  exact ⟨T, ho⟩
end Go.Proofs.YtajhgnefcddenaaDoor.Dm
namespace Go.Proofs.YtajhgnefcddenaaDoor
open Go Go.ChangeShapes Go.WideShapes Go.ChangeAt Go.RowKit Dm
theorem WaitlistRoom_walk {W : World} {xs : List D} {vs : Array Value} (ht : TVs Tryd.prog [3, 3] xs) (hv : VRs W ⟨Tryd.prog, fun _ => none, fun g => g < W.heap.size⟩ xs vs.toList) (hp : pureL xs = true) :
    Calls Tryd.prog 4 vs W fun e W' => e = .returned (.bool true) ∧ Below W.heap.size W W' := by
  obtain ⟨c, _, rfl, hc, ht⟩ := TVs.int1w Tryd.underlying3 ht
  obtain ⟨w, _, rfl, hw, ht⟩ := TVs.int1w Tryd.underlying3 ht
  have := ht.inv0
  subst this
  obtain ⟨T, hT⟩ := WaitlistRoom_d (n := 1000) (cc := c) (nn := w) (by omega)
  exact true_of_dcall envOk (I := fun g => g < W.heap.size) hT (fun g h => h) (fun g cs hg => by cases hg) hv
end Go.Proofs.YtajhgnefcddenaaDoor
