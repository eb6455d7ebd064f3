/-
  The machine at lists of violations: two equal lists are found equal; the decimals of small numbers; the examples of layer 58.
-/
import Derived.Test.YteffefjkcappbaaDoorAuW
namespace Go.Proofs.YteffefjkcappbaaDoor.Dm
open Go
set_option linter.unusedSimpArgs false

def encF (f : Int × ByteArray) : List D := [.int .i64 f.1, .str f.2]
/-- A slice of violations, wherever it lies. -/
def FV (S : List Ob) (d : D) (fs : List (Int × ByteArray)) : Prop :=
  (d = .nils ∧ fs = []) ∨ (∃ x, d = .sl 2 (fs.map encF) x) ∨ ∃ k, d = .os k 0 fs.length false ∧ S[k]? = some (.row 2 (fs.map encF))
theorem encF_pure (fs : List (Int × ByteArray)) : pureLL (fs.map encF) = true := by
  induction fs with
  | nil => rfl
  | cons f fs ih => rw [List.map_cons, pureLL_cons, ih]; rfl
theorem FV.frozen {T S : List Ob} {d : D} {fs : List (Int × ByteArray)} (h : FV T d fs) : ∃ d', freeze T 40 d = some d' ∧ FV S d' fs := by
  rcases h with ⟨rfl, rfl⟩ | ⟨x, rfl⟩ | ⟨k, rfl, hk⟩
  · exact ⟨_, rfl, .inl ⟨rfl, rfl⟩⟩
  · exact ⟨_, freeze_pure (encF_pure fs), .inr (.inl ⟨x, rfl⟩)⟩
  · have := freeze_os (n := 38) (x := false) hk (encF_pure fs)
    rw [List.length_map] at this
    exact ⟨_, this, .inr (.inl ⟨_, rfl⟩)⟩
theorem bytes_refl (s : ByteArray) : (s == s) = true := by
  obtain ⟨d⟩ := s
  show (d == d) = true
  simp
theorem plain_fault : plainEqT Tryd.prog 142 = true := by kernel_rfl
set_option maxRecDepth 100000 in
theorem eq_fault (a : Int) (s : ByteArray) : dEq Tryd.prog 10000 142 (.agg [.int .i64 a, .str s]) (.agg [.int .i64 a, .str s]) = some true := by
  rw [show (10000 : Nat) = 9998 + 1 + 1 from rfl]
  have hs : Tryd.prog.stoodInHeld 142 = false := by kernel_rfl
  simp (decide := true) only [push_cast, dEq, dEqs, beq_self_eq_true, bytes_refl, hs]
set_option maxHeartbeats 8000000 in
set_option maxRecDepth 100000 in
theorem faults_d {n : Nat} {d e : D} {fs : List (Int × ByteArray)} {S : List Ob} (hn : fs.length < n) (hl : fs.length ≤ 1000) (hd : FV S d fs) (he : FV S e fs) : WO (dcall E (n + 1) 20 [d, e] S) fun r T => r = .bool true ∧ T = S := by
  refine wo_dcall Tryd.func20 rfl (by decide) rfl 26 rfl (fun a hal ha => ?_)
  have h0 : a[0]? = some d := ha 0 (by simp)
  have h1 : a[1]? = some e := ha 1 (by simp)
  clear ha
  rcases hd with ⟨rfl, rfl⟩ | ⟨x, rfl⟩ | ⟨k, rfl, hk⟩ <;> rcases he with ⟨rfl, he⟩ | ⟨y, rfl⟩ | ⟨k', rfl, hk'⟩ <;> (try subst he) <;>
  · simp (decide := true) (maxSteps := 4000000) (disch := omega) only [push_cast, ↓wc_seq, ↓wc_block, ↓wc_scope, ↓wc_cond, ↓wc_region, ↓wr_cons, ↓wr_consg, ↓wr_nil, ↓wo_pick, ↓wo_callf, ↓wc_exit, ↓wc_ret, ↓wc_skip, ↓wc_wl, wo_some, wo_none, wo_ite, opQ_eq, seqQ_normal, seqQ_exit, seqQ_ret, blockQ_normal, blockQ_exit, blockQ_ret, iterQ_normal, iterQ_exit, iterQ_ret, retQ_normal, retQ_ret, retQ_exit, pickQ_bool, guardQ_some, guardQ_skip, setC, List.length_set, decide_eq_true_eq, decide_eq_false_iff_not, true_implies, false_implies, forall_const, reduceCtorEq, eq_self, Int.natCast_nonneg, Int.toNat_natCast, Int.ofNat_lt, D.int.injEq, Option.some.injEq, Nat.zero_add, Nat.add_zero, bne_iff_ne, bne_eq_false_iff_eq, beq_iff_eq, beq_eq_false_iff_ne, gt_iff_lt, ne_eq, not_true_eq_false, not_false_eq_true, planIds, hasExt, cntFs, idxFs, clnFs, ovlFs, List.contains_cons, List.contains_nil, List.any_cons, List.any_nil, Nat.reduceBEq, Nat.reduceMul, Nat.reduceAdd, ↓reduceIte, hal, h0, h1, List.length_map]
    refine wl_loop (fun i b T => T = S ∧ b.length = 26 ∧ b[0]? = a[0]? ∧ b[1]? = a[1]? ∧ b[5]? = some (.int .i64 i)) (List.length _) ?_ hn ?_
    · simp (decide := true) (maxSteps := 4000000) (disch := omega) only [push_cast, ↓wc_seq, ↓wc_block, ↓wc_scope, ↓wc_cond, ↓wc_region, ↓wr_cons, ↓wr_consg, ↓wr_nil, ↓wo_pick, ↓wo_callf, ↓wc_exit, ↓wc_ret, ↓wc_skip, ↓wc_wl, wo_some, wo_none, wo_ite, opQ_eq, seqQ_normal, seqQ_exit, seqQ_ret, blockQ_normal, blockQ_exit, blockQ_ret, iterQ_normal, iterQ_exit, iterQ_ret, retQ_normal, retQ_ret, retQ_exit, pickQ_bool, guardQ_some, guardQ_skip, setC, List.length_set, decide_eq_true_eq, decide_eq_false_iff_not, true_implies, false_implies, forall_const, reduceCtorEq, eq_self, Int.natCast_nonneg, Int.toNat_natCast, Int.ofNat_lt, D.int.injEq, Option.some.injEq, Nat.zero_add, Nat.add_zero, bne_iff_ne, bne_eq_false_iff_eq, beq_iff_eq, beq_eq_false_iff_ne, gt_iff_lt, ne_eq, not_true_eq_false, not_false_eq_true, planIds, hasExt, cntFs, idxFs, clnFs, ovlFs, List.contains_cons, List.contains_nil, List.any_cons, List.any_nil, Nat.reduceBEq, Nat.reduceMul, Nat.reduceAdd, ↓reduceIte, hal, h0, h1, Int.natCast_zero]
    · rintro i b T hi ⟨rfl, hbl, hb0, hb1, h5⟩
      rw [h0] at hb0
      rw [h1] at hb1
      rcases Nat.lt_or_eq_of_le hi with hlt | rfl
      · obtain ⟨f, hf⟩ : ∃ f, (_ : List (Int × ByteArray))[i]? = some f := ⟨_, List.getElem?_eq_getElem hlt⟩
        first
        | exact absurd hlt (Nat.not_lt_zero _)
        | simp (decide := true) (maxSteps := 4000000) (disch := omega) only [push_cast, ↓wc_seq, ↓wc_block, ↓wc_scope, ↓wc_cond, ↓wc_region, ↓wr_cons, ↓wr_consg, ↓wr_nil, ↓wo_pick, ↓wo_callf, ↓wc_exit, ↓wc_ret, ↓wc_skip, ↓wc_wl, wo_some, wo_none, wo_ite, opQ_eq, seqQ_normal, seqQ_exit, seqQ_ret, blockQ_normal, blockQ_exit, blockQ_ret, iterQ_normal, iterQ_exit, iterQ_ret, retQ_normal, retQ_ret, retQ_exit, pickQ_bool, guardQ_some, guardQ_skip, setC, List.length_set, decide_eq_true_eq, decide_eq_false_iff_not, true_implies, false_implies, forall_const, reduceCtorEq, eq_self, Int.natCast_nonneg, Int.toNat_natCast, Int.ofNat_lt, D.int.injEq, Option.some.injEq, Nat.zero_add, Nat.add_zero, bne_iff_ne, bne_eq_false_iff_eq, beq_iff_eq, beq_eq_false_iff_ne, gt_iff_lt, ne_eq, not_true_eq_false, not_false_eq_true, planIds, hasExt, cntFs, idxFs, clnFs, ovlFs, List.contains_cons, List.contains_nil, List.any_cons, List.any_nil, Nat.reduceBEq, Nat.reduceMul, Nat.reduceAdd, ↓reduceIte, hbl, hb0, hb1, h0, h1, h5, hlt, wrap_ok, List.length_map, List.getElem?_map, hf, hk, hk', encF, plain_fault, eq_fault, Tryd.f20, Int.natCast_add, Int.natCast_one]
        | simp (decide := true) (maxSteps := 4000000) (disch := omega) only [push_cast, ↓wc_seq, ↓wc_block, ↓wc_scope, ↓wc_cond, ↓wc_region, ↓wr_cons, ↓wr_consg, ↓wr_nil, ↓wo_pick, ↓wo_callf, ↓wc_exit, ↓wc_ret, ↓wc_skip, ↓wc_wl, wo_some, wo_none, wo_ite, opQ_eq, seqQ_normal, seqQ_exit, seqQ_ret, blockQ_normal, blockQ_exit, blockQ_ret, iterQ_normal, iterQ_exit, iterQ_ret, retQ_normal, retQ_ret, retQ_exit, pickQ_bool, guardQ_some, guardQ_skip, setC, List.length_set, decide_eq_true_eq, decide_eq_false_iff_not, true_implies, false_implies, forall_const, reduceCtorEq, eq_self, Int.natCast_nonneg, Int.toNat_natCast, Int.ofNat_lt, D.int.injEq, Option.some.injEq, Nat.zero_add, Nat.add_zero, bne_iff_ne, bne_eq_false_iff_eq, beq_iff_eq, beq_eq_false_iff_ne, gt_iff_lt, ne_eq, not_true_eq_false, not_false_eq_true, planIds, hasExt, cntFs, idxFs, clnFs, ovlFs, List.contains_cons, List.contains_nil, List.any_cons, List.any_nil, Nat.reduceBEq, Nat.reduceMul, Nat.reduceAdd, ↓reduceIte, hbl, hb0, hb1, h0, h1, h5, hlt, wrap_ok, List.length_map, List.getElem?_map, hf, hk, encF, plain_fault, eq_fault, Tryd.f20, Int.natCast_add, Int.natCast_one]
        | simp (decide := true) (maxSteps := 4000000) (disch := omega) only [push_cast, ↓wc_seq, ↓wc_block, ↓wc_scope, ↓wc_cond, ↓wc_region, ↓wr_cons, ↓wr_consg, ↓wr_nil, ↓wo_pick, ↓wo_callf, ↓wc_exit, ↓wc_ret, ↓wc_skip, ↓wc_wl, wo_some, wo_none, wo_ite, opQ_eq, seqQ_normal, seqQ_exit, seqQ_ret, blockQ_normal, blockQ_exit, blockQ_ret, iterQ_normal, iterQ_exit, iterQ_ret, retQ_normal, retQ_ret, retQ_exit, pickQ_bool, guardQ_some, guardQ_skip, setC, List.length_set, decide_eq_true_eq, decide_eq_false_iff_not, true_implies, false_implies, forall_const, reduceCtorEq, eq_self, Int.natCast_nonneg, Int.toNat_natCast, Int.ofNat_lt, D.int.injEq, Option.some.injEq, Nat.zero_add, Nat.add_zero, bne_iff_ne, bne_eq_false_iff_eq, beq_iff_eq, beq_eq_false_iff_ne, gt_iff_lt, ne_eq, not_true_eq_false, not_false_eq_true, planIds, hasExt, cntFs, idxFs, clnFs, ovlFs, List.contains_cons, List.contains_nil, List.any_cons, List.any_nil, Nat.reduceBEq, Nat.reduceMul, Nat.reduceAdd, ↓reduceIte, hbl, hb0, hb1, h0, h1, h5, hlt, wrap_ok, List.length_map, List.getElem?_map, hf, hk', encF, plain_fault, eq_fault, Tryd.f20, Int.natCast_add, Int.natCast_one]
        | simp (decide := true) (maxSteps := 4000000) (disch := omega) only [push_cast, ↓wc_seq, ↓wc_block, ↓wc_scope, ↓wc_cond, ↓wc_region, ↓wr_cons, ↓wr_consg, ↓wr_nil, ↓wo_pick, ↓wo_callf, ↓wc_exit, ↓wc_ret, ↓wc_skip, ↓wc_wl, wo_some, wo_none, wo_ite, opQ_eq, seqQ_normal, seqQ_exit, seqQ_ret, blockQ_normal, blockQ_exit, blockQ_ret, iterQ_normal, iterQ_exit, iterQ_ret, retQ_normal, retQ_ret, retQ_exit, pickQ_bool, guardQ_some, guardQ_skip, setC, List.length_set, decide_eq_true_eq, decide_eq_false_iff_not, true_implies, false_implies, forall_const, reduceCtorEq, eq_self, Int.natCast_nonneg, Int.toNat_natCast, Int.ofNat_lt, D.int.injEq, Option.some.injEq, Nat.zero_add, Nat.add_zero, bne_iff_ne, bne_eq_false_iff_eq, beq_iff_eq, beq_eq_false_iff_ne, gt_iff_lt, ne_eq, not_true_eq_false, not_false_eq_true, planIds, hasExt, cntFs, idxFs, clnFs, ovlFs, List.contains_cons, List.contains_nil, List.any_cons, List.any_nil, Nat.reduceBEq, Nat.reduceMul, Nat.reduceAdd, ↓reduceIte, hbl, hb0, hb1, h0, h1, h5, hlt, wrap_ok, List.length_map, List.getElem?_map, hf, encF, plain_fault, eq_fault, Tryd.f20, Int.natCast_add, Int.natCast_one]
      · simp (decide := true) (maxSteps := 4000000) (disch := omega) only [push_cast, ↓wc_seq, ↓wc_block, ↓wc_scope, ↓wc_cond, ↓wc_region, ↓wr_cons, ↓wr_consg, ↓wr_nil, ↓wo_pick, ↓wo_callf, ↓wc_exit, ↓wc_ret, ↓wc_skip, ↓wc_wl, wo_some, wo_none, wo_ite, opQ_eq, seqQ_normal, seqQ_exit, seqQ_ret, blockQ_normal, blockQ_exit, blockQ_ret, iterQ_normal, iterQ_exit, iterQ_ret, retQ_normal, retQ_ret, retQ_exit, pickQ_bool, guardQ_some, guardQ_skip, setC, List.length_set, decide_eq_true_eq, decide_eq_false_iff_not, true_implies, false_implies, forall_const, reduceCtorEq, eq_self, Int.natCast_nonneg, Int.toNat_natCast, Int.ofNat_lt, D.int.injEq, Option.some.injEq, Nat.zero_add, Nat.add_zero, bne_iff_ne, bne_eq_false_iff_eq, beq_iff_eq, beq_eq_false_iff_ne, gt_iff_lt, ne_eq, not_true_eq_false, not_false_eq_true, planIds, hasExt, cntFs, idxFs, clnFs, ovlFs, List.contains_cons, List.contains_nil, List.any_cons, List.any_nil, Nat.reduceBEq, Nat.reduceMul, Nat.reduceAdd, ↓reduceIte, hbl, hb0, hb1, h5, Nat.lt_irrefl, wrap_ok, List.length_map, Tryd.f20]
end Go.Proofs.YteffefjkcappbaaDoor.Dm
