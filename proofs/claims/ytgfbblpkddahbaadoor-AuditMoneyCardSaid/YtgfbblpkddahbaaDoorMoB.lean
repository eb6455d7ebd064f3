/-
  The machine at the look at accounts: its loops.
-/
import Derived.Test.YtgfbblpkddahbaaDoorMoA
namespace Go.Proofs.YtgfbblpkddahbaaDoor.Dm
open Go
set_option linter.unusedSimpArgs false

def callV (E : Env) (call : Call) (dr : Bool) (S : List Ob) (d : D) (l : List D) : Option (D × List Ob) :=
  match d with
  | .func g first cap => if dr && !(decide (E.mode g = .pure) || decide (E.mode g = .obs)) then none else callD E call dr S g (first ++ l ++ cap)
  | _ => none
theorem wo_callv {E : Env} {call : Call} {dr : Bool} {ev : Operand → D} {S : List Ob} {t : Tmp} {args : Array Operand} {tys : Array TypeId} {Q : D → List Ob → Prop} :
    WO (dOp E call dr ev S (.call { callee := .value (.tmp t), args := args, argTypes := tys })) Q = WO (callV E call dr S (ev (.tmp t)) (args.toList.map ev)) Q := rfl
theorem callV_func {E : Env} {call : Call} {S : List Ob} {g : FuncId} {x y l : List D} : callV E call false S (.func g x y) l = callD E call false S g (x ++ l ++ y) := by
  simp [callV]
theorem values_c {ts : List Tkt} {x : Bool} (hl : ts.length ≤ 10) (hp : pureL [.sl 10 (ts.map Tkt.enc) x] = true) (st : Bool) (S : List Ob) :
    callD E (dcall E 998) st S 40 [.sl 10 (ts.map Tkt.enc) x] = some (valD (valT 0 ts), S) := by
  obtain ⟨d, T, ho, rfl⟩ := values_d (x := x) (n := 997) (S := []) (by omega) hl
  refine callD_pure rfl hp ho ?_
  cases valT 0 ts <;> rfl
theorem add_f {b : Bool} {o : Nat} {S : List Ob} {fs : List (Int × ByteArray)} (h : Cell S o fs) (hl : fs.length ≤ 1000) :
    ∃ f : ByteArray → List Ob, ∀ s, callD E (dcall E 998) false S 41 [.bool b, .str s, .loc o 0 0] = some (.tup [], f s) ∧ Cell (f s) o (fs ++ if b = true then [(36, s)] else []) :=
  Classical.skolem.1 fun s => add_c h hl
set_option maxHeartbeats 8000000 in
set_option maxRecDepth 100000 in
theorem Money_d {ts : List Tkt} {ps : List Pst} {x y : Bool} {S : List Ob} (hl : ts.length ≤ 10) (hp : ps.length ≤ 20) (hpt : pureL [.sl 10 (ts.map Tkt.enc) x] = true) :
    WO (dcall E 999 11 [.sl 10 (ts.map Tkt.enc) x, .sl 2 (ps.map Pst.enc) y] S) fun d T => FV T d (monF ts ps) := by
  have cv := values_c hl hpt
  refine wo_dcall Tryd.func11 rfl (by decide) rfl 118 rfl (fun a hal ha => ?_)
  have h0 : a[0]? = some (.sl 10 (ts.map Tkt.enc) x) := ha 0 (by simp)
  have h1 : a[1]? = some (.sl 2 (ps.map Pst.enc) y) := ha 1 (by simp)
  clear ha
  have e1 : ¬ (1024 : Int) < ts.length := by omega
  have e2 : ¬ (1024 : Int) < ps.length := by omega
  simp (maxSteps := 1000000) (disch := omega) only [push_cast, ↓wc_seq, ↓wc_block, ↓wc_scope, ↓wc_condL, ↓wc_region, ↓wr_cons, ↓wr_consgL, ↓wr_nil, ↓wo_pickL, ↓wo_callf, ↓wc_exit, ↓wc_ret, ↓wc_skip, ↓wc_wl, wo_some, wo_none, wo_ite, opQ_eq, seqQ_normal, seqQ_exit, seqQ_ret, blockQ_normal, blockQ_exit, blockQ_ret, iterQ_normal, iterQ_exit, iterQ_ret, retQ_normal, retQ_ret, retQ_exit, pickC_true, pickC_false, pickO_true, pickO_false, gstep_tt, gstep_ff, gstep_tf, gstep_ft, gstep_skip, int_bne, int_beq, decide_not, Nat.reduceAdd, Nat.reduceMul, Nat.reduceSub, Nat.reducePow, Nat.reduceLT, Nat.reduceLeDiff, Nat.reduceEqDiff, Int.reduceToNat, Int.reduceAdd, Int.reduceSub, Int.reduceNeg, Int.reduceMul, Int.reduceLT, Int.reduceLE, Int.reduceEq, le_max, ↓wo_build, ↓wo_buildSlice, evParts, ↓reduceIte, hasExt, cntFs, ovlFs, List.contains_cons, List.contains_nil, List.any_cons, List.any_nil, Nat.reduceBEq, setC, List.length_set, decide_eq_true_eq, decide_eq_false_iff_not, true_implies, false_implies, forall_const, reduceCtorEq, eq_self, Int.natCast_nonneg, Int.toNat_natCast, Int.ofNat_lt, D.int.injEq, Option.some.injEq, Nat.zero_add, Nat.add_zero, bne_iff_ne, bne_eq_false_iff_eq, beq_iff_eq, beq_eq_false_iff_ne, gt_iff_lt, ne_eq, not_true_eq_false, not_false_eq_true, hal, h0, h1, e1, e2, List.length_map]
  refine wl_loop (fun i a _ => a.length = 118 ∧ a[0]? = some (.sl 10 (ts.map Tkt.enc) x) ∧ a[1]? = some (.sl 2 (ps.map Pst.enc) y) ∧ a[5]? = some (.sl 2 [encF (11, acS)] true) ∧ a[27]? = some (.sl 2 (ps.map Pst.enc) y) ∧ a[28]? = some (.int .i64 ps.length) ∧ a[29]? = some (.int .i64 i) ∧ anyP ps = anyP (ps.drop i) ∧ ∃ t u, a[6]? = some (.int .i64 t) ∧ a[7]? = some (.int .i64 u) ∧ sumP 0 0 ps = sumP t u (ps.drop i)) ps.length ?_ (by omega) ?_
  · simp (maxSteps := 1000000) (disch := omega) only [push_cast, ↓wc_seq, ↓wc_block, ↓wc_scope, ↓wc_condL, ↓wc_region, ↓wr_cons, ↓wr_consgL, ↓wr_nil, ↓wo_pickL, ↓wo_callf, ↓wc_exit, ↓wc_ret, ↓wc_skip, ↓wc_wl, wo_some, wo_none, wo_ite, opQ_eq, seqQ_normal, seqQ_exit, seqQ_ret, blockQ_normal, blockQ_exit, blockQ_ret, iterQ_normal, iterQ_exit, iterQ_ret, retQ_normal, retQ_ret, retQ_exit, pickC_true, pickC_false, pickO_true, pickO_false, gstep_tt, gstep_ff, gstep_tf, gstep_ft, gstep_skip, int_bne, int_beq, decide_not, Nat.reduceAdd, Nat.reduceMul, Nat.reduceSub, Nat.reducePow, Nat.reduceLT, Nat.reduceLeDiff, Nat.reduceEqDiff, Int.reduceToNat, Int.reduceAdd, Int.reduceSub, Int.reduceNeg, Int.reduceMul, Int.reduceLT, Int.reduceLE, Int.reduceEq, le_max, ↓wo_build, ↓wo_buildSlice, evParts, ↓reduceIte, hasExt, cntFs, ovlFs, List.contains_cons, List.contains_nil, List.any_cons, List.any_nil, Nat.reduceBEq, setC, List.length_set, decide_eq_true_eq, decide_eq_false_iff_not, true_implies, false_implies, forall_const, reduceCtorEq, eq_self, Int.natCast_nonneg, Int.toNat_natCast, Int.ofNat_lt, D.int.injEq, Option.some.injEq, Nat.zero_add, Nat.add_zero, bne_iff_ne, bne_eq_false_iff_eq, beq_iff_eq, beq_eq_false_iff_ne, gt_iff_lt, ne_eq, not_true_eq_false, not_false_eq_true, hal, h0, h1, List.length_map, Int.natCast_zero]
    exact ⟨rfl, 0, 0, rfl, rfl, rfl⟩
  · rintro i a T hi ⟨hal, h0, h1, h5, h27, h28, h29, hany, t, u, h6, h7, hv⟩
    rcases Nat.lt_or_eq_of_le hi with hlt | rfl
    · obtain ⟨p, hp'⟩ : ∃ p, ps[i]? = some p := ⟨ps[i], by simp [hlt]⟩
      rw [drop_at hp', sumP] at hv
      rw [drop_at hp', anyP] at hany
      by_cases b0 : badP p
      · rw [if_pos b0] at hany
        have hm : monF ts ps = [(11, acS)] := by unfold monF; rw [hany]; rfl
        by_cases b1 : p.amt < -1125899906842624
        · simp (maxSteps := 1000000) (disch := omega) only [push_cast, ↓wc_seq, ↓wc_block, ↓wc_scope, ↓wc_condL, ↓wc_region, ↓wr_cons, ↓wr_consgL, ↓wr_nil, ↓wo_pickL, ↓wo_callf, ↓wc_exit, ↓wc_ret, ↓wc_skip, ↓wc_wl, wo_some, wo_none, wo_ite, opQ_eq, seqQ_normal, seqQ_exit, seqQ_ret, blockQ_normal, blockQ_exit, blockQ_ret, iterQ_normal, iterQ_exit, iterQ_ret, retQ_normal, retQ_ret, retQ_exit, pickC_true, pickC_false, pickO_true, pickO_false, gstep_tt, gstep_ff, gstep_tf, gstep_ft, gstep_skip, int_bne, int_beq, decide_not, Nat.reduceAdd, Nat.reduceMul, Nat.reduceSub, Nat.reducePow, Nat.reduceLT, Nat.reduceLeDiff, Nat.reduceEqDiff, Int.reduceToNat, Int.reduceAdd, Int.reduceSub, Int.reduceNeg, Int.reduceMul, Int.reduceLT, Int.reduceLE, Int.reduceEq, le_max, ↓wo_build, ↓wo_buildSlice, evParts, ↓reduceIte, hasExt, cntFs, ovlFs, List.contains_cons, List.contains_nil, List.any_cons, List.any_nil, Nat.reduceBEq, setC, List.length_set, decide_eq_true_eq, decide_eq_false_iff_not, true_implies, false_implies, forall_const, reduceCtorEq, eq_self, Int.natCast_nonneg, Int.toNat_natCast, Int.ofNat_lt, D.int.injEq, Option.some.injEq, Nat.zero_add, Nat.add_zero, bne_iff_ne, bne_eq_false_iff_eq, beq_iff_eq, beq_eq_false_iff_ne, gt_iff_lt, ne_eq, not_true_eq_false, not_false_eq_true, hal, h0, h1, h5, h6, h7, h27, h28, h29, hlt, wrap_ok, List.length_map, List.getElem?_map, hp', Pst.enc, set_last, get_last, b1, Tryd.f11]
          rw [hm]; exact .inr (.inl ⟨_, rfl⟩)
        · have b2 : 1125899906842624 < p.amt := by unfold badP at b0; omega
          simp (maxSteps := 1000000) (disch := omega) only [push_cast, ↓wc_seq, ↓wc_block, ↓wc_scope, ↓wc_condL, ↓wc_region, ↓wr_cons, ↓wr_consgL, ↓wr_nil, ↓wo_pickL, ↓wo_callf, ↓wc_exit, ↓wc_ret, ↓wc_skip, ↓wc_wl, wo_some, wo_none, wo_ite, opQ_eq, seqQ_normal, seqQ_exit, seqQ_ret, blockQ_normal, blockQ_exit, blockQ_ret, iterQ_normal, iterQ_exit, iterQ_ret, retQ_normal, retQ_ret, retQ_exit, pickC_true, pickC_false, pickO_true, pickO_false, gstep_tt, gstep_ff, gstep_tf, gstep_ft, gstep_skip, int_bne, int_beq, decide_not, Nat.reduceAdd, Nat.reduceMul, Nat.reduceSub, Nat.reducePow, Nat.reduceLT, Nat.reduceLeDiff, Nat.reduceEqDiff, Int.reduceToNat, Int.reduceAdd, Int.reduceSub, Int.reduceNeg, Int.reduceMul, Int.reduceLT, Int.reduceLE, Int.reduceEq, le_max, ↓wo_build, ↓wo_buildSlice, evParts, ↓reduceIte, hasExt, cntFs, ovlFs, List.contains_cons, List.contains_nil, List.any_cons, List.any_nil, Nat.reduceBEq, setC, List.length_set, decide_eq_true_eq, decide_eq_false_iff_not, true_implies, false_implies, forall_const, reduceCtorEq, eq_self, Int.natCast_nonneg, Int.toNat_natCast, Int.ofNat_lt, D.int.injEq, Option.some.injEq, Nat.zero_add, Nat.add_zero, bne_iff_ne, bne_eq_false_iff_eq, beq_iff_eq, beq_eq_false_iff_ne, gt_iff_lt, ne_eq, not_true_eq_false, not_false_eq_true, hal, h0, h1, h5, h6, h7, h27, h28, h29, hlt, wrap_ok, List.length_map, List.getElem?_map, hp', Pst.enc, set_last, get_last, b1, b2, Tryd.f11]
          rw [hm]; exact .inr (.inl ⟨_, rfl⟩)
      · rw [if_neg b0] at hany
        have b1 : ¬ p.amt < -1125899906842624 := by unfold badP at b0; omega
        have b2 : ¬ 1125899906842624 < p.amt := by unfold badP at b0; omega
        by_cases b3 : isU p.nm = true
        · have b3' := b3
          unfold isU at b3'
          rw [if_pos b3] at hv
          simp (maxSteps := 1000000) (disch := omega) only [push_cast, ↓wc_seq, ↓wc_block, ↓wc_scope, ↓wc_condL, ↓wc_region, ↓wr_cons, ↓wr_consgL, ↓wr_nil, ↓wo_pickL, ↓wo_callf, ↓wc_exit, ↓wc_ret, ↓wc_skip, ↓wc_wl, wo_some, wo_none, wo_ite, opQ_eq, seqQ_normal, seqQ_exit, seqQ_ret, blockQ_normal, blockQ_exit, blockQ_ret, iterQ_normal, iterQ_exit, iterQ_ret, retQ_normal, retQ_ret, retQ_exit, pickC_true, pickC_false, pickO_true, pickO_false, gstep_tt, gstep_ff, gstep_tf, gstep_ft, gstep_skip, int_bne, int_beq, decide_not, Nat.reduceAdd, Nat.reduceMul, Nat.reduceSub, Nat.reducePow, Nat.reduceLT, Nat.reduceLeDiff, Nat.reduceEqDiff, Int.reduceToNat, Int.reduceAdd, Int.reduceSub, Int.reduceNeg, Int.reduceMul, Int.reduceLT, Int.reduceLE, Int.reduceEq, le_max, ↓wo_build, ↓wo_buildSlice, evParts, ↓reduceIte, hasExt, cntFs, ovlFs, List.contains_cons, List.contains_nil, List.any_cons, List.any_nil, Nat.reduceBEq, setC, List.length_set, decide_eq_true_eq, decide_eq_false_iff_not, true_implies, false_implies, forall_const, reduceCtorEq, eq_self, Int.natCast_nonneg, Int.toNat_natCast, Int.ofNat_lt, D.int.injEq, Option.some.injEq, Nat.zero_add, Nat.add_zero, bne_iff_ne, bne_eq_false_iff_eq, beq_iff_eq, beq_eq_false_iff_ne, gt_iff_lt, ne_eq, not_true_eq_false, not_false_eq_true, hal, h0, h1, h5, h6, h7, h27, h28, h29, hlt, wrap_ok, List.length_map, List.getElem?_map, hp', Pst.enc, set_last, get_last, b1, b2, b3', Int.natCast_add, Int.natCast_one]
          exact ⟨hany, _, _, rfl, rfl, hv⟩
        · have b3' : isU p.nm = false := by simpa using b3
          unfold isU at b3'
          rw [if_neg b3] at hv
          simp (maxSteps := 1000000) (disch := omega) only [push_cast, ↓wc_seq, ↓wc_block, ↓wc_scope, ↓wc_condL, ↓wc_region, ↓wr_cons, ↓wr_consgL, ↓wr_nil, ↓wo_pickL, ↓wo_callf, ↓wc_exit, ↓wc_ret, ↓wc_skip, ↓wc_wl, wo_some, wo_none, wo_ite, opQ_eq, seqQ_normal, seqQ_exit, seqQ_ret, blockQ_normal, blockQ_exit, blockQ_ret, iterQ_normal, iterQ_exit, iterQ_ret, retQ_normal, retQ_ret, retQ_exit, pickC_true, pickC_false, pickO_true, pickO_false, gstep_tt, gstep_ff, gstep_tf, gstep_ft, gstep_skip, int_bne, int_beq, decide_not, Nat.reduceAdd, Nat.reduceMul, Nat.reduceSub, Nat.reducePow, Nat.reduceLT, Nat.reduceLeDiff, Nat.reduceEqDiff, Int.reduceToNat, Int.reduceAdd, Int.reduceSub, Int.reduceNeg, Int.reduceMul, Int.reduceLT, Int.reduceLE, Int.reduceEq, le_max, ↓wo_build, ↓wo_buildSlice, evParts, ↓reduceIte, hasExt, cntFs, ovlFs, List.contains_cons, List.contains_nil, List.any_cons, List.any_nil, Nat.reduceBEq, setC, List.length_set, decide_eq_true_eq, decide_eq_false_iff_not, true_implies, false_implies, forall_const, reduceCtorEq, eq_self, Int.natCast_nonneg, Int.toNat_natCast, Int.ofNat_lt, D.int.injEq, Option.some.injEq, Nat.zero_add, Nat.add_zero, bne_iff_ne, bne_eq_false_iff_eq, beq_iff_eq, beq_eq_false_iff_ne, gt_iff_lt, ne_eq, not_true_eq_false, not_false_eq_true, hal, h0, h1, h5, h6, h7, h27, h28, h29, hlt, wrap_ok, List.length_map, List.getElem?_map, hp', Pst.enc, set_last, get_last, b1, b2, b3', Int.natCast_add, Int.natCast_one]
          exact ⟨hany, _, _, rfl, rfl, hv⟩
    · rw [List.drop_length] at hv hany
      have hany' : anyP ps = false := hany
      by_cases ht : anyT ts = true
      · have hm : monF ts ps = [(11, acS)] := by unfold monF; rw [ht, Bool.or_true]; rfl
        rw [valT_sum, if_pos ht] at cv
        simp (maxSteps := 1000000) (disch := omega) only [push_cast, ↓wc_seq, ↓wc_block, ↓wc_scope, ↓wc_condL, ↓wc_region, ↓wr_cons, ↓wr_consgL, ↓wr_nil, ↓wo_pickL, ↓wo_callf, ↓wc_exit, ↓wc_ret, ↓wc_skip, ↓wc_wl, wo_some, wo_none, wo_ite, opQ_eq, seqQ_normal, seqQ_exit, seqQ_ret, blockQ_normal, blockQ_exit, blockQ_ret, iterQ_normal, iterQ_exit, iterQ_ret, retQ_normal, retQ_ret, retQ_exit, pickC_true, pickC_false, pickO_true, pickO_false, gstep_tt, gstep_ff, gstep_tf, gstep_ft, gstep_skip, int_bne, int_beq, decide_not, Nat.reduceAdd, Nat.reduceMul, Nat.reduceSub, Nat.reducePow, Nat.reduceLT, Nat.reduceLeDiff, Nat.reduceEqDiff, Int.reduceToNat, Int.reduceAdd, Int.reduceSub, Int.reduceNeg, Int.reduceMul, Int.reduceLT, Int.reduceLE, Int.reduceEq, le_max, ↓wo_build, ↓wo_buildSlice, evParts, ↓reduceIte, hasExt, cntFs, ovlFs, List.contains_cons, List.contains_nil, List.any_cons, List.any_nil, Nat.reduceBEq, setC, List.length_set, decide_eq_true_eq, decide_eq_false_iff_not, true_implies, false_implies, forall_const, reduceCtorEq, eq_self, Int.natCast_nonneg, Int.toNat_natCast, Int.ofNat_lt, D.int.injEq, Option.some.injEq, Nat.zero_add, Nat.add_zero, bne_iff_ne, bne_eq_false_iff_eq, beq_iff_eq, beq_eq_false_iff_ne, gt_iff_lt, ne_eq, not_true_eq_false, not_false_eq_true, hal, h0, h1, h5, h6, h7, h27, h28, h29, Nat.lt_irrefl, cv, valD, Tryd.f11]
        rw [hm]; exact .inr (.inl ⟨_, rfl⟩)
      · have ht' : anyT ts = false := by simpa using ht
        have hm : monF ts ps = headF ts ps ++ accs ps := by unfold monF; rw [ht', hany']; rfl
        rw [valT_sum, if_neg ht] at cv
        rw [hm]
        unfold headF
        rw [hv, sumP]
        generalize sumT 0 ts = w at *
        have c0 : Cell (T ++ [.row 1 [[.nils]]]) T.length [] := ⟨.nils, get_end, .inl ⟨rfl, rfl⟩, fun n e => by cases e⟩
        obtain ⟨B1, hB1⟩ : ∃ B, (!decide (t = 0)) = B := ⟨_, rfl⟩
        obtain ⟨B2, hB2⟩ : ∃ B, (!decide (u = IntKind.i64.wrap (0 - w))) = B := ⟨_, rfl⟩
        obtain ⟨f1, hf1⟩ := add_f (b := B1) c0 (by simp)
        obtain ⟨f2, hf2⟩ := add_f (b := B2) (hf1 (ByteArray.mk #[116, 111, 116, 97, 108])).2 (by cases B1 <;> simp)
        have g1 := fun s => (hf1 s).1
        have g2 := fun s => (hf2 s).1
        simp (maxSteps := 1000000) (disch := omega) only [push_cast, ↓wc_seq, ↓wc_block, ↓wc_scope, ↓wc_condL, ↓wc_region, ↓wr_cons, ↓wr_consgL, ↓wr_nil, ↓wo_pickL, ↓wo_callf, ↓wc_exit, ↓wc_ret, ↓wc_skip, ↓wc_wl, wo_some, wo_none, wo_ite, opQ_eq, seqQ_normal, seqQ_exit, seqQ_ret, blockQ_normal, blockQ_exit, blockQ_ret, iterQ_normal, iterQ_exit, iterQ_ret, retQ_normal, retQ_ret, retQ_exit, pickC_true, pickC_false, pickO_true, pickO_false, gstep_tt, gstep_ff, gstep_tf, gstep_ft, gstep_skip, int_bne, int_beq, decide_not, Nat.reduceAdd, Nat.reduceMul, Nat.reduceSub, Nat.reducePow, Nat.reduceLT, Nat.reduceLeDiff, Nat.reduceEqDiff, Int.reduceToNat, Int.reduceAdd, Int.reduceSub, Int.reduceNeg, Int.reduceMul, Int.reduceLT, Int.reduceLE, Int.reduceEq, le_max, ↓wo_build, ↓wo_buildSlice, evParts, ↓reduceIte, hasExt, cntFs, ovlFs, List.contains_cons, List.contains_nil, List.any_cons, List.any_nil, Nat.reduceBEq, setC, List.length_set, decide_eq_true_eq, decide_eq_false_iff_not, true_implies, false_implies, forall_const, reduceCtorEq, eq_self, Int.natCast_nonneg, Int.toNat_natCast, Int.ofNat_lt, D.int.injEq, Option.some.injEq, Nat.zero_add, Nat.add_zero, bne_iff_ne, bne_eq_false_iff_eq, beq_iff_eq, beq_eq_false_iff_ne, gt_iff_lt, ne_eq, not_true_eq_false, not_false_eq_true, ↓wo_callv, callV_func, hal, h0, h1, h5, h6, h7, h27, h28, h29, Nat.lt_irrefl, cv, valD, hB1, hB2, g1, g2, dUn]
        have hc2 := (hf2 (ByteArray.mk #[117, 110, 102, 108, 111, 119, 110])).2
        refine wl_loop (fun i a T' => a.length = 118 ∧ a[12]? = some (.loc T.length 0 0) ∧ a[13]? = some (.func 41 [] [.loc T.length 0 0]) ∧ a[73]? = some (.sl 2 (ps.map Pst.enc) y) ∧ a[74]? = some (.int .i64 ps.length) ∧ a[75]? = some (.int .i64 i) ∧ ∃ fs, Cell T' T.length fs ∧ ((if t = 0 then [] else [((36 : Int), totS)]) ++ if u = IntKind.i64.wrap (0 - w) then [] else [(36, ufS)]) ++ accs ps = fs ++ accs (ps.drop i) ∧ fs.length ≤ 2 + i) ps.length ?_ (by omega) ?_
        · simp (maxSteps := 1000000) (disch := omega) only [push_cast, ↓wc_seq, ↓wc_block, ↓wc_scope, ↓wc_condL, ↓wc_region, ↓wr_cons, ↓wr_consgL, ↓wr_nil, ↓wo_pickL, ↓wo_callf, ↓wc_exit, ↓wc_ret, ↓wc_skip, ↓wc_wl, wo_some, wo_none, wo_ite, opQ_eq, seqQ_normal, seqQ_exit, seqQ_ret, blockQ_normal, blockQ_exit, blockQ_ret, iterQ_normal, iterQ_exit, iterQ_ret, retQ_normal, retQ_ret, retQ_exit, pickC_true, pickC_false, pickO_true, pickO_false, gstep_tt, gstep_ff, gstep_tf, gstep_ft, gstep_skip, int_bne, int_beq, decide_not, Nat.reduceAdd, Nat.reduceMul, Nat.reduceSub, Nat.reducePow, Nat.reduceLT, Nat.reduceLeDiff, Nat.reduceEqDiff, Int.reduceToNat, Int.reduceAdd, Int.reduceSub, Int.reduceNeg, Int.reduceMul, Int.reduceLT, Int.reduceLE, Int.reduceEq, le_max, ↓wo_build, ↓wo_buildSlice, evParts, ↓reduceIte, hasExt, cntFs, ovlFs, List.contains_cons, List.contains_nil, List.any_cons, List.any_nil, Nat.reduceBEq, setC, List.length_set, decide_eq_true_eq, decide_eq_false_iff_not, true_implies, false_implies, forall_const, reduceCtorEq, eq_self, Int.natCast_nonneg, Int.toNat_natCast, Int.ofNat_lt, D.int.injEq, Option.some.injEq, Nat.zero_add, Nat.add_zero, bne_iff_ne, bne_eq_false_iff_eq, beq_iff_eq, beq_eq_false_iff_ne, gt_iff_lt, ne_eq, not_true_eq_false, not_false_eq_true, hal, h0, h1, List.length_map, Int.natCast_zero]
          refine ⟨_, hc2, ?_, by cases B1 <;> cases B2 <;> simp⟩
          congr 1
          by_cases z1 : t = 0 <;> by_cases z2 : u = IntKind.i64.wrap (0 - w) <;> simp only [z1, z2, decide_true, decide_false, Bool.not_true, Bool.not_false] at hB1 hB2 <;> subst hB1 <;> subst hB2 <;> simp only [z1, z2, if_true, if_false, eq_self] <;> rfl
        · clear hal h0 h1 h5 h6 h7 h27 h28 h29 hf1 hf2 g1 g2 hi hc2 c0
          rintro i a T' hi ⟨hal, h12, h13, h73, h74, h75, fs, hc, hv, hfl⟩
          rcases Nat.lt_or_eq_of_le hi with hlt | rfl
          · obtain ⟨p, hp'⟩ : ∃ p, ps[i]? = some p := ⟨ps[i], by simp [hlt]⟩
            rw [drop_at hp', accs_cons] at hv
            by_cases kc : isCash p.nm = true
            · have kc' := kc
              unfold isCash at kc'
              obtain ⟨B, hB⟩ : ∃ B, decide (p.amt < 0) = B := ⟨_, rfl⟩
              obtain ⟨f, hf⟩ := add_f (b := B) (hc.push (.row 2 [[.str p.nm, .int .i64 p.amt]])) (by omega)
              have q := fun s => (hf s).1
              have hacc : accF p = if B = true then [(36, p.nm)] else [] := by rw [← hB]; unfold accF; simp [kc, cash_not kc]
              simp (maxSteps := 1000000) (disch := omega) only [push_cast, ↓wc_seq, ↓wc_block, ↓wc_scope, ↓wc_condL, ↓wc_region, ↓wr_cons, ↓wr_consgL, ↓wr_nil, ↓wo_pickL, ↓wo_callf, ↓wc_exit, ↓wc_ret, ↓wc_skip, ↓wc_wl, wo_some, wo_none, wo_ite, opQ_eq, seqQ_normal, seqQ_exit, seqQ_ret, blockQ_normal, blockQ_exit, blockQ_ret, iterQ_normal, iterQ_exit, iterQ_ret, retQ_normal, retQ_ret, retQ_exit, pickC_true, pickC_false, pickO_true, pickO_false, gstep_tt, gstep_ff, gstep_tf, gstep_ft, gstep_skip, int_bne, int_beq, decide_not, Nat.reduceAdd, Nat.reduceMul, Nat.reduceSub, Nat.reducePow, Nat.reduceLT, Nat.reduceLeDiff, Nat.reduceEqDiff, Int.reduceToNat, Int.reduceAdd, Int.reduceSub, Int.reduceNeg, Int.reduceMul, Int.reduceLT, Int.reduceLE, Int.reduceEq, le_max, ↓wo_build, ↓wo_buildSlice, evParts, ↓reduceIte, hasExt, cntFs, ovlFs, List.contains_cons, List.contains_nil, List.any_cons, List.any_nil, Nat.reduceBEq, setC, List.length_set, decide_eq_true_eq, decide_eq_false_iff_not, true_implies, false_implies, forall_const, reduceCtorEq, eq_self, Int.natCast_nonneg, Int.toNat_natCast, Int.ofNat_lt, D.int.injEq, Option.some.injEq, Nat.zero_add, Nat.add_zero, bne_iff_ne, bne_eq_false_iff_eq, beq_iff_eq, beq_eq_false_iff_ne, gt_iff_lt, ne_eq, not_true_eq_false, not_false_eq_true, ↓wo_callv, callV_func, hal, h12, h13, h73, h74, h75, hlt, wrap_ok, List.length_map, List.getElem?_map, hp', Pst.enc, set_last, get_last, Int.natCast_add, Int.natCast_one, kc', hB, q]
              exact ⟨_, (hf _).2, by rw [hv, hacc, ← List.append_assoc], by rw [List.length_append]; split <;> simp only [List.length_cons, List.length_nil] <;> omega⟩
            · have kcf : isCash p.nm = false := by simpa using kc
              have kc' := kcf
              unfold isCash at kc'
              by_cases kr : isRev p.nm = true
              · have kr' := kr
                unfold isRev at kr'
                have hni : isInc p.nm = true := by unfold isInc; simp [kr]
                obtain ⟨B, hB⟩ : ∃ B, decide (0 < p.amt) = B := ⟨_, rfl⟩
                obtain ⟨f, hf⟩ := add_f (b := B) (hc.push (.row 2 [[.str p.nm, .int .i64 p.amt]])) (by omega)
                have q := fun s => (hf s).1
                have hacc : accF p = if B = true then [(36, p.nm)] else [] := by rw [← hB]; unfold accF; simp [kcf, hni]
                simp (maxSteps := 1000000) (disch := omega) only [push_cast, ↓wc_seq, ↓wc_block, ↓wc_scope, ↓wc_condL, ↓wc_region, ↓wr_cons, ↓wr_consgL, ↓wr_nil, ↓wo_pickL, ↓wo_callf, ↓wc_exit, ↓wc_ret, ↓wc_skip, ↓wc_wl, wo_some, wo_none, wo_ite, opQ_eq, seqQ_normal, seqQ_exit, seqQ_ret, blockQ_normal, blockQ_exit, blockQ_ret, iterQ_normal, iterQ_exit, iterQ_ret, retQ_normal, retQ_ret, retQ_exit, pickC_true, pickC_false, pickO_true, pickO_false, gstep_tt, gstep_ff, gstep_tf, gstep_ft, gstep_skip, int_bne, int_beq, decide_not, Nat.reduceAdd, Nat.reduceMul, Nat.reduceSub, Nat.reducePow, Nat.reduceLT, Nat.reduceLeDiff, Nat.reduceEqDiff, Int.reduceToNat, Int.reduceAdd, Int.reduceSub, Int.reduceNeg, Int.reduceMul, Int.reduceLT, Int.reduceLE, Int.reduceEq, le_max, ↓wo_build, ↓wo_buildSlice, evParts, ↓reduceIte, hasExt, cntFs, ovlFs, List.contains_cons, List.contains_nil, List.any_cons, List.any_nil, Nat.reduceBEq, setC, List.length_set, decide_eq_true_eq, decide_eq_false_iff_not, true_implies, false_implies, forall_const, reduceCtorEq, eq_self, Int.natCast_nonneg, Int.toNat_natCast, Int.ofNat_lt, D.int.injEq, Option.some.injEq, Nat.zero_add, Nat.add_zero, bne_iff_ne, bne_eq_false_iff_eq, beq_iff_eq, beq_eq_false_iff_ne, gt_iff_lt, ne_eq, not_true_eq_false, not_false_eq_true, ↓wo_callv, callV_func, hal, h12, h13, h73, h74, h75, hlt, wrap_ok, List.length_map, List.getElem?_map, hp', Pst.enc, set_last, get_last, Int.natCast_add, Int.natCast_one, kc', kr', hB, q]
                exact ⟨_, (hf _).2, by rw [hv, hacc, ← List.append_assoc], by rw [List.length_append]; split <;> simp only [List.length_cons, List.length_nil] <;> omega⟩
              · have krf : isRev p.nm = false := by simpa using kr
                have kr' := krf
                unfold isRev at kr'
                by_cases kf : isFee p.nm = true
                · have kf' := kf
                  unfold isFee at kf'
                  have hni : isInc p.nm = true := by unfold isInc; simp [kf]
                  obtain ⟨B, hB⟩ : ∃ B, decide (0 < p.amt) = B := ⟨_, rfl⟩
                  obtain ⟨f, hf⟩ := add_f (b := B) (hc.push (.row 2 [[.str p.nm, .int .i64 p.amt]])) (by omega)
                  have q := fun s => (hf s).1
                  have hacc : accF p = if B = true then [(36, p.nm)] else [] := by rw [← hB]; unfold accF; simp [kcf, hni]
                  simp (maxSteps := 1000000) (disch := omega) only [push_cast, ↓wc_seq, ↓wc_block, ↓wc_scope, ↓wc_condL, ↓wc_region, ↓wr_cons, ↓wr_consgL, ↓wr_nil, ↓wo_pickL, ↓wo_callf, ↓wc_exit, ↓wc_ret, ↓wc_skip, ↓wc_wl, wo_some, wo_none, wo_ite, opQ_eq, seqQ_normal, seqQ_exit, seqQ_ret, blockQ_normal, blockQ_exit, blockQ_ret, iterQ_normal, iterQ_exit, iterQ_ret, retQ_normal, retQ_ret, retQ_exit, pickC_true, pickC_false, pickO_true, pickO_false, gstep_tt, gstep_ff, gstep_tf, gstep_ft, gstep_skip, int_bne, int_beq, decide_not, Nat.reduceAdd, Nat.reduceMul, Nat.reduceSub, Nat.reducePow, Nat.reduceLT, Nat.reduceLeDiff, Nat.reduceEqDiff, Int.reduceToNat, Int.reduceAdd, Int.reduceSub, Int.reduceNeg, Int.reduceMul, Int.reduceLT, Int.reduceLE, Int.reduceEq, le_max, ↓wo_build, ↓wo_buildSlice, evParts, ↓reduceIte, hasExt, cntFs, ovlFs, List.contains_cons, List.contains_nil, List.any_cons, List.any_nil, Nat.reduceBEq, setC, List.length_set, decide_eq_true_eq, decide_eq_false_iff_not, true_implies, false_implies, forall_const, reduceCtorEq, eq_self, Int.natCast_nonneg, Int.toNat_natCast, Int.ofNat_lt, D.int.injEq, Option.some.injEq, Nat.zero_add, Nat.add_zero, bne_iff_ne, bne_eq_false_iff_eq, beq_iff_eq, beq_eq_false_iff_ne, gt_iff_lt, ne_eq, not_true_eq_false, not_false_eq_true, ↓wo_callv, callV_func, hal, h12, h13, h73, h74, h75, hlt, wrap_ok, List.length_map, List.getElem?_map, hp', Pst.enc, set_last, get_last, Int.natCast_add, Int.natCast_one, kc', kr', kf', hB, q]
                  exact ⟨_, (hf _).2, by rw [hv, hacc, ← List.append_assoc], by rw [List.length_append]; split <;> simp only [List.length_cons, List.length_nil] <;> omega⟩
                · have kff : isFee p.nm = false := by simpa using kf
                  have kf' := kff
                  unfold isFee at kf'
                  by_cases ke : isCre p.nm = true
                  · have ke' := ke
                    unfold isCre at ke'
                    have hni : isInc p.nm = true := by unfold isInc; simp [ke]
                    obtain ⟨B, hB⟩ : ∃ B, decide (0 < p.amt) = B := ⟨_, rfl⟩
                    obtain ⟨f, hf⟩ := add_f (b := B) (hc.push (.row 2 [[.str p.nm, .int .i64 p.amt]])) (by omega)
                    have q := fun s => (hf s).1
                    have hacc : accF p = if B = true then [(36, p.nm)] else [] := by rw [← hB]; unfold accF; simp [kcf, hni]
                    simp (maxSteps := 1000000) (disch := omega) only [push_cast, ↓wc_seq, ↓wc_block, ↓wc_scope, ↓wc_condL, ↓wc_region, ↓wr_cons, ↓wr_consgL, ↓wr_nil, ↓wo_pickL, ↓wo_callf, ↓wc_exit, ↓wc_ret, ↓wc_skip, ↓wc_wl, wo_some, wo_none, wo_ite, opQ_eq, seqQ_normal, seqQ_exit, seqQ_ret, blockQ_normal, blockQ_exit, blockQ_ret, iterQ_normal, iterQ_exit, iterQ_ret, retQ_normal, retQ_ret, retQ_exit, pickC_true, pickC_false, pickO_true, pickO_false, gstep_tt, gstep_ff, gstep_tf, gstep_ft, gstep_skip, int_bne, int_beq, decide_not, Nat.reduceAdd, Nat.reduceMul, Nat.reduceSub, Nat.reducePow, Nat.reduceLT, Nat.reduceLeDiff, Nat.reduceEqDiff, Int.reduceToNat, Int.reduceAdd, Int.reduceSub, Int.reduceNeg, Int.reduceMul, Int.reduceLT, Int.reduceLE, Int.reduceEq, le_max, ↓wo_build, ↓wo_buildSlice, evParts, ↓reduceIte, hasExt, cntFs, ovlFs, List.contains_cons, List.contains_nil, List.any_cons, List.any_nil, Nat.reduceBEq, setC, List.length_set, decide_eq_true_eq, decide_eq_false_iff_not, true_implies, false_implies, forall_const, reduceCtorEq, eq_self, Int.natCast_nonneg, Int.toNat_natCast, Int.ofNat_lt, D.int.injEq, Option.some.injEq, Nat.zero_add, Nat.add_zero, bne_iff_ne, bne_eq_false_iff_eq, beq_iff_eq, beq_eq_false_iff_ne, gt_iff_lt, ne_eq, not_true_eq_false, not_false_eq_true, ↓wo_callv, callV_func, hal, h12, h13, h73, h74, h75, hlt, wrap_ok, List.length_map, List.getElem?_map, hp', Pst.enc, set_last, get_last, Int.natCast_add, Int.natCast_one, kc', kr', kf', ke', hB, q]
                    exact ⟨_, (hf _).2, by rw [hv, hacc, ← List.append_assoc], by rw [List.length_append]; split <;> simp only [List.length_cons, List.length_nil] <;> omega⟩
                  · have kef : isCre p.nm = false := by simpa using ke
                    have ke' := kef
                    unfold isCre at ke'
                    have pc := pre_c p.nm
                    by_cases kd : isDue p.nm = true
                    · have hni : isInc p.nm = true := by unfold isInc; simp [kd]
                      rw [kd] at pc
                      obtain ⟨B, hB⟩ : ∃ B, decide (0 < p.amt) = B := ⟨_, rfl⟩
                      obtain ⟨f, hf⟩ := add_f (b := B) (hc.push (.row 2 [[.str p.nm, .int .i64 p.amt]])) (by omega)
                      have q := fun s => (hf s).1
                      have hacc : accF p = if B = true then [(36, p.nm)] else [] := by rw [← hB]; unfold accF; simp [kcf, hni]
                      simp (maxSteps := 1000000) (disch := omega) only [push_cast, ↓wc_seq, ↓wc_block, ↓wc_scope, ↓wc_condL, ↓wc_region, ↓wr_cons, ↓wr_consgL, ↓wr_nil, ↓wo_pickL, ↓wo_callf, ↓wc_exit, ↓wc_ret, ↓wc_skip, ↓wc_wl, wo_some, wo_none, wo_ite, opQ_eq, seqQ_normal, seqQ_exit, seqQ_ret, blockQ_normal, blockQ_exit, blockQ_ret, iterQ_normal, iterQ_exit, iterQ_ret, retQ_normal, retQ_ret, retQ_exit, pickC_true, pickC_false, pickO_true, pickO_false, gstep_tt, gstep_ff, gstep_tf, gstep_ft, gstep_skip, int_bne, int_beq, decide_not, Nat.reduceAdd, Nat.reduceMul, Nat.reduceSub, Nat.reducePow, Nat.reduceLT, Nat.reduceLeDiff, Nat.reduceEqDiff, Int.reduceToNat, Int.reduceAdd, Int.reduceSub, Int.reduceNeg, Int.reduceMul, Int.reduceLT, Int.reduceLE, Int.reduceEq, le_max, ↓wo_build, ↓wo_buildSlice, evParts, ↓reduceIte, hasExt, cntFs, ovlFs, List.contains_cons, List.contains_nil, List.any_cons, List.any_nil, Nat.reduceBEq, setC, List.length_set, decide_eq_true_eq, decide_eq_false_iff_not, true_implies, false_implies, forall_const, reduceCtorEq, eq_self, Int.natCast_nonneg, Int.toNat_natCast, Int.ofNat_lt, D.int.injEq, Option.some.injEq, Nat.zero_add, Nat.add_zero, bne_iff_ne, bne_eq_false_iff_eq, beq_iff_eq, beq_eq_false_iff_ne, gt_iff_lt, ne_eq, not_true_eq_false, not_false_eq_true, ↓wo_callv, callV_func, hal, h12, h13, h73, h74, h75, hlt, wrap_ok, List.length_map, List.getElem?_map, hp', Pst.enc, set_last, get_last, Int.natCast_add, Int.natCast_one, kc', kr', kf', ke', pc, hB, q]
                      exact ⟨_, (hf _).2, by rw [hv, hacc, ← List.append_assoc], by rw [List.length_append]; split <;> simp only [List.length_cons, List.length_nil] <;> omega⟩
                    · have kdf : isDue p.nm = false := by simpa using kd
                      have hni : isInc p.nm = false := by unfold isInc; simp only [krf, kff, kef, kdf, Bool.or_false]
                      rw [kdf] at pc
                      have hacc : accF p = [] := by unfold accF; rw [if_neg (by simp [kcf, hni])]
                      simp (maxSteps := 1000000) (disch := omega) only [push_cast, ↓wc_seq, ↓wc_block, ↓wc_scope, ↓wc_condL, ↓wc_region, ↓wr_cons, ↓wr_consgL, ↓wr_nil, ↓wo_pickL, ↓wo_callf, ↓wc_exit, ↓wc_ret, ↓wc_skip, ↓wc_wl, wo_some, wo_none, wo_ite, opQ_eq, seqQ_normal, seqQ_exit, seqQ_ret, blockQ_normal, blockQ_exit, blockQ_ret, iterQ_normal, iterQ_exit, iterQ_ret, retQ_normal, retQ_ret, retQ_exit, pickC_true, pickC_false, pickO_true, pickO_false, gstep_tt, gstep_ff, gstep_tf, gstep_ft, gstep_skip, int_bne, int_beq, decide_not, Nat.reduceAdd, Nat.reduceMul, Nat.reduceSub, Nat.reducePow, Nat.reduceLT, Nat.reduceLeDiff, Nat.reduceEqDiff, Int.reduceToNat, Int.reduceAdd, Int.reduceSub, Int.reduceNeg, Int.reduceMul, Int.reduceLT, Int.reduceLE, Int.reduceEq, le_max, ↓wo_build, ↓wo_buildSlice, evParts, ↓reduceIte, hasExt, cntFs, ovlFs, List.contains_cons, List.contains_nil, List.any_cons, List.any_nil, Nat.reduceBEq, setC, List.length_set, decide_eq_true_eq, decide_eq_false_iff_not, true_implies, false_implies, forall_const, reduceCtorEq, eq_self, Int.natCast_nonneg, Int.toNat_natCast, Int.ofNat_lt, D.int.injEq, Option.some.injEq, Nat.zero_add, Nat.add_zero, bne_iff_ne, bne_eq_false_iff_eq, beq_iff_eq, beq_eq_false_iff_ne, gt_iff_lt, ne_eq, not_true_eq_false, not_false_eq_true, ↓wo_callv, callV_func, hal, h12, h13, h73, h74, h75, hlt, wrap_ok, List.length_map, List.getElem?_map, hp', Pst.enc, set_last, get_last, Int.natCast_add, Int.natCast_one, kc', kr', kf', ke', pc]
                      exact ⟨_, hc.push _, by rw [hv, hacc, List.nil_append], by omega⟩
          · rw [List.drop_length, show accs [] = [] from rfl, List.append_nil] at hv
            obtain ⟨d, hd, hgv, -⟩ := hc
            simp (maxSteps := 1000000) (disch := omega) only [push_cast, ↓wc_seq, ↓wc_block, ↓wc_scope, ↓wc_condL, ↓wc_region, ↓wr_cons, ↓wr_consgL, ↓wr_nil, ↓wo_pickL, ↓wo_callf, ↓wc_exit, ↓wc_ret, ↓wc_skip, ↓wc_wl, wo_some, wo_none, wo_ite, opQ_eq, seqQ_normal, seqQ_exit, seqQ_ret, blockQ_normal, blockQ_exit, blockQ_ret, iterQ_normal, iterQ_exit, iterQ_ret, retQ_normal, retQ_ret, retQ_exit, pickC_true, pickC_false, pickO_true, pickO_false, gstep_tt, gstep_ff, gstep_tf, gstep_ft, gstep_skip, int_bne, int_beq, decide_not, Nat.reduceAdd, Nat.reduceMul, Nat.reduceSub, Nat.reducePow, Nat.reduceLT, Nat.reduceLeDiff, Nat.reduceEqDiff, Int.reduceToNat, Int.reduceAdd, Int.reduceSub, Int.reduceNeg, Int.reduceMul, Int.reduceLT, Int.reduceLE, Int.reduceEq, le_max, ↓wo_build, ↓wo_buildSlice, evParts, ↓reduceIte, hasExt, cntFs, ovlFs, List.contains_cons, List.contains_nil, List.any_cons, List.any_nil, Nat.reduceBEq, setC, List.length_set, decide_eq_true_eq, decide_eq_false_iff_not, true_implies, false_implies, forall_const, reduceCtorEq, eq_self, Int.natCast_nonneg, Int.toNat_natCast, Int.ofNat_lt, D.int.injEq, Option.some.injEq, Nat.zero_add, Nat.add_zero, bne_iff_ne, bne_eq_false_iff_eq, beq_iff_eq, beq_eq_false_iff_ne, gt_iff_lt, ne_eq, not_true_eq_false, not_false_eq_true, hal, h12, h13, h73, h74, h75, Nat.lt_irrefl, List.length_map, hd, Tryd.f11]
            show FV _ _ (((if t = 0 then [] else [((36 : Int), totS)]) ++ if u = IntKind.i64.wrap (0 - w) then [] else [(36, ufS)]) ++ accs ps)
            rw [hv]
            exact hgv.fv
end Go.Proofs.YtgfbblpkddahbaaDoor.Dm
