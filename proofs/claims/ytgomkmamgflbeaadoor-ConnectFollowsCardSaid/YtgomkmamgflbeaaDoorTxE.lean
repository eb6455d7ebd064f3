/-
  The machine at the predicates of texts: the program's and the reference's.
-/
import Derived.Test.YtgomkmamgflbeaaDoorWq
namespace Go.Proofs.YtgomkmamgflbeaaDoor.Dm
open Go
set_option linter.unusedSimpArgs false

def callV (E : Env) (call : Call) (dr : Bool) (S : List Ob) (d : D) (l : List D) : Option (D × List Ob) :=
  match d with
  | .func g first cap => if dr && !(decide (E.mode g = .pure) || decide (E.mode g = .obs)) then none else callD E call dr S g (first ++ l ++ cap)
  | _ => none
theorem wo_callv {E : Env} {call : Call} {dr : Bool} {ev : Operand → D} {S : List Ob} {t : Tmp} {args : Array Operand} {tys : Array TypeId} {Q : D → List Ob → Prop} :
    WO (dOp E call dr ev S (.call { callee := .value (.tmp t), args := args, argTypes := tys })) Q = WO (callV E call dr S (ev (.tmp t)) (args.toList.map ev)) Q := rfl
theorem byte_at' {s : ByteArray} {i : Nat} (h : i < s.size) : ∃ b, s[i]? = some b := ⟨s[i], by simp [h]⟩
def capB (b : UInt8) : Bool := decide (65 ≤ b.toNat) && decide (b.toNat ≤ 90)
def digB (b : UInt8) : Bool := decide (48 ≤ b.toNat) && decide (b.toNat ≤ 57)
def cdB (b : UInt8) : Bool := capB b || digB b
def evr (p : UInt8 → Bool) (s : ByteArray) : Nat → Bool
  | 0 => true
  | i + 1 => evr p s i && p ((s[i]?).getD 0)
theorem evr_mono {p : UInt8 → Bool} {s : ByteArray} {i j : Nat} (h : evr p s i = false) (hij : i ≤ j) : evr p s j = false := by
  induction j with
  | zero => have : i = 0 := by omega
            subst this; exact h
  | succ j ih =>
    rcases Nat.lt_or_eq_of_le hij with hlt | rfl
    · rw [evr, ih (by omega)]; rfl
    · exact h
theorem evr_no {p : UInt8 → Bool} {s : ByteArray} {i : Nat} {b : UInt8} (hi : i < s.size) (hb : s[i]? = some b) (hp : p b = false) : evr p s s.size = false :=
  evr_mono (i := i + 1) (by rw [evr, hb, Option.getD_some, hp, Bool.and_false]) hi
set_option maxRecDepth 100000 in
theorem upper_d {n : Nat} {b : UInt8} {S : List Ob} : WO (dcall E (n + 1) 58 [.int .u8 b.toNat] S) fun d T => d = .bool (capB b) ∧ T = S := by
  refine wo_dcall Tryd.func58 rfl (by decide) rfl 9 rfl (fun a hal ha => ?_)
  have h0 : a[0]? = some (.int .u8 b.toNat) := ha 0 (by simp)
  clear ha
  unfold capB
  by_cases h1 : 65 ≤ b.toNat
  · have h1' : (65 : Int) ≤ (b.toNat : Int) := by omega
    by_cases h2 : b.toNat ≤ 90
    · have h2' : (b.toNat : Int) ≤ 90 := by omega
      simp (maxSteps := 1000000) (disch := omega) only [push_cast, ↓wc_seq, ↓wc_block, ↓wc_scope, ↓wc_condL, ↓wc_region, ↓wr_cons, ↓wr_consgL, ↓wr_nil, ↓wo_pickL, ↓wo_callf, ↓wc_exit, ↓wc_ret, ↓wc_skip, ↓wc_wl, wo_some, wo_none, wo_ite, opQ_eq, seqQ_normal, seqQ_exit, seqQ_ret, blockQ_normal, blockQ_exit, blockQ_ret, iterQ_normal, iterQ_exit, iterQ_ret, retQ_normal, retQ_ret, retQ_exit, pickC_true, pickC_false, pickO_true, pickO_false, gstep_tt, gstep_ff, gstep_tf, gstep_ft, gstep_skip, int_bne, int_beq, decide_not, Nat.reduceAdd, Nat.reduceMul, Nat.reduceSub, Nat.reducePow, Nat.reduceLT, Nat.reduceLeDiff, Nat.reduceEqDiff, Int.reduceToNat, Int.reduceAdd, Int.reduceSub, Int.reduceNeg, Int.reduceMul, Int.reduceLT, Int.reduceLE, Int.reduceEq, le_max, ↓wo_build, ↓wo_buildSlice, evParts, ↓reduceIte, planIds, hasExt, cntFs, idxFs, clnFs, ovlFs, List.contains_cons, List.contains_nil, List.any_cons, List.any_nil, Nat.reduceBEq, setC, List.length_set, decide_eq_true_eq, decide_eq_false_iff_not, true_implies, false_implies, forall_const, reduceCtorEq, eq_self, Int.natCast_nonneg, Int.toNat_natCast, Int.ofNat_lt, D.int.injEq, Option.some.injEq, Nat.zero_add, Nat.add_zero, bne_iff_ne, bne_eq_false_iff_eq, beq_iff_eq, beq_eq_false_iff_ne, gt_iff_lt, ne_eq, not_true_eq_false, not_false_eq_true, planIds, hasExt, cntFs, idxFs, clnFs, ovlFs, List.contains_cons, List.contains_nil, List.any_cons, List.any_nil, Nat.reduceBEq, Nat.reduceMul, Nat.reduceAdd, ↓reduceIte, hal, h0, h1, h1', h2, h2', ge_iff_le, decide_true, Bool.and_true, Tryd.f58]
    · have h2' : ¬ (b.toNat : Int) ≤ 90 := by omega
      simp (maxSteps := 1000000) (disch := omega) only [push_cast, ↓wc_seq, ↓wc_block, ↓wc_scope, ↓wc_condL, ↓wc_region, ↓wr_cons, ↓wr_consgL, ↓wr_nil, ↓wo_pickL, ↓wo_callf, ↓wc_exit, ↓wc_ret, ↓wc_skip, ↓wc_wl, wo_some, wo_none, wo_ite, opQ_eq, seqQ_normal, seqQ_exit, seqQ_ret, blockQ_normal, blockQ_exit, blockQ_ret, iterQ_normal, iterQ_exit, iterQ_ret, retQ_normal, retQ_ret, retQ_exit, pickC_true, pickC_false, pickO_true, pickO_false, gstep_tt, gstep_ff, gstep_tf, gstep_ft, gstep_skip, int_bne, int_beq, decide_not, Nat.reduceAdd, Nat.reduceMul, Nat.reduceSub, Nat.reducePow, Nat.reduceLT, Nat.reduceLeDiff, Nat.reduceEqDiff, Int.reduceToNat, Int.reduceAdd, Int.reduceSub, Int.reduceNeg, Int.reduceMul, Int.reduceLT, Int.reduceLE, Int.reduceEq, le_max, ↓wo_build, ↓wo_buildSlice, evParts, ↓reduceIte, planIds, hasExt, cntFs, idxFs, clnFs, ovlFs, List.contains_cons, List.contains_nil, List.any_cons, List.any_nil, Nat.reduceBEq, setC, List.length_set, decide_eq_true_eq, decide_eq_false_iff_not, true_implies, false_implies, forall_const, reduceCtorEq, eq_self, Int.natCast_nonneg, Int.toNat_natCast, Int.ofNat_lt, D.int.injEq, Option.some.injEq, Nat.zero_add, Nat.add_zero, bne_iff_ne, bne_eq_false_iff_eq, beq_iff_eq, beq_eq_false_iff_ne, gt_iff_lt, ne_eq, not_true_eq_false, not_false_eq_true, planIds, hasExt, cntFs, idxFs, clnFs, ovlFs, List.contains_cons, List.contains_nil, List.any_cons, List.any_nil, Nat.reduceBEq, Nat.reduceMul, Nat.reduceAdd, ↓reduceIte, hal, h0, h1, h1', h2, h2', ge_iff_le, decide_true, decide_false, Bool.and_false, Tryd.f58]
  · have h1' : ¬ (65 : Int) ≤ (b.toNat : Int) := by omega
    simp (maxSteps := 1000000) (disch := omega) only [push_cast, ↓wc_seq, ↓wc_block, ↓wc_scope, ↓wc_condL, ↓wc_region, ↓wr_cons, ↓wr_consgL, ↓wr_nil, ↓wo_pickL, ↓wo_callf, ↓wc_exit, ↓wc_ret, ↓wc_skip, ↓wc_wl, wo_some, wo_none, wo_ite, opQ_eq, seqQ_normal, seqQ_exit, seqQ_ret, blockQ_normal, blockQ_exit, blockQ_ret, iterQ_normal, iterQ_exit, iterQ_ret, retQ_normal, retQ_ret, retQ_exit, pickC_true, pickC_false, pickO_true, pickO_false, gstep_tt, gstep_ff, gstep_tf, gstep_ft, gstep_skip, int_bne, int_beq, decide_not, Nat.reduceAdd, Nat.reduceMul, Nat.reduceSub, Nat.reducePow, Nat.reduceLT, Nat.reduceLeDiff, Nat.reduceEqDiff, Int.reduceToNat, Int.reduceAdd, Int.reduceSub, Int.reduceNeg, Int.reduceMul, Int.reduceLT, Int.reduceLE, Int.reduceEq, le_max, ↓wo_build, ↓wo_buildSlice, evParts, ↓reduceIte, planIds, hasExt, cntFs, idxFs, clnFs, ovlFs, List.contains_cons, List.contains_nil, List.any_cons, List.any_nil, Nat.reduceBEq, setC, List.length_set, decide_eq_true_eq, decide_eq_false_iff_not, true_implies, false_implies, forall_const, reduceCtorEq, eq_self, Int.natCast_nonneg, Int.toNat_natCast, Int.ofNat_lt, D.int.injEq, Option.some.injEq, Nat.zero_add, Nat.add_zero, bne_iff_ne, bne_eq_false_iff_eq, beq_iff_eq, beq_eq_false_iff_ne, gt_iff_lt, ne_eq, not_true_eq_false, not_false_eq_true, planIds, hasExt, cntFs, idxFs, clnFs, ovlFs, List.contains_cons, List.contains_nil, List.any_cons, List.any_nil, Nat.reduceBEq, Nat.reduceMul, Nat.reduceAdd, ↓reduceIte, hal, h0, h1, h1', ge_iff_le, decide_false, Bool.false_and, Tryd.f58]
theorem upper_c {n : Nat} (hn : 1 ≤ n) (b : UInt8) (st : Bool) (S : List Ob) : callD E (dcall E n) st S 58 [.int .u8 b.toNat] = some (.bool (capB b), S) := by
  obtain ⟨m, rfl⟩ : ∃ m, n = m + 1 := ⟨n - 1, by omega⟩
  exact callD_pure rfl rfl (eq_of_wo upper_d) rfl
end Go.Proofs.YtgomkmamgflbeaaDoor.Dm
