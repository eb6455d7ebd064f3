/-
  The machine at strings.Split by a space: the words are those of the text.
-/
import Derived.Test.YteffefjkcappbaaDoorTxC
import Derived.Lib.IndexBytes
namespace Go.Proofs.YteffefjkcappbaaDoor.Dm
open Go
set_option linter.unusedSimpArgs false

theorem ext_cnt : Dm.E.ext 256 = some fun S l => (dCount l).map (·, S) := rfl
theorem ext_idx : Dm.E.ext 253 = some fun S l => (dIndexB l).map (·, S) := rfl
theorem sp_ne : ((ByteArray.mk #[32]).toList == (ByteArray.mk #[]).toList) = false := by kernel_rfl
theorem sp_size : (ByteArray.mk #[32]).size = 1 := rfl
theorem sp_get : (ByteArray.mk #[32])[0]? = some 32 := rfl
theorem sp_byte : ((UInt8.toNat 32 : Nat) : Int) = 32 := rfl
/-- The words between spaces. -/
def spl : List UInt8 → List (List UInt8)
  | [] => [[]]
  | b :: l => if b = 32 then [] :: spl l else match spl l with
    | [] => [[b]]
    | w :: ws => (b :: w) :: ws
theorem spl_ne : ∀ l : List UInt8, spl l ≠ []
  | [] => by simp [spl]
  | b :: l => by
    unfold spl
    split
    · simp
    · split <;> simp
theorem spl_no : ∀ l : List UInt8, l.count 32 = 0 → spl l = [l]
  | [], _ => rfl
  | b :: l, h => by
    rw [List.count_cons] at h
    have hb : b ≠ 32 := fun e => by subst e; simp at h
    have hl : l.count 32 = 0 := by omega
    unfold spl
    rw [if_neg hb, spl_no l hl]
theorem idx_spec : ∀ l : List UInt8, (l.count 32 = 0 ∧ Lib.indexByte l 32 = -1) ∨ ∃ r : Nat, Lib.indexByte l 32 = r ∧ r < l.length ∧ spl l = l.take r :: spl (l.drop (r + 1)) ∧ (l.drop (r + 1)).count 32 + 1 = l.count 32
  | [] => .inl ⟨rfl, rfl⟩
  | b :: l => by
    by_cases hb : b = 32
    · subst hb
      refine .inr ⟨0, by simp [Lib.indexByte], by simp, by simp [spl], by simp⟩
    · have hb' : (b == 32) = false := by simpa using hb
      rcases idx_spec l with ⟨h1, h2⟩ | ⟨r, h1, h2, h3, h4⟩
      · refine .inl ⟨by rw [List.count_cons, h1]; simp [hb'], ?_⟩
        unfold Lib.indexByte
        rw [hb', h2]; rfl
      · refine .inr ⟨r + 1, ?_, by simp; omega, ?_, by rw [List.drop_succ_cons, List.count_cons, hb']; simpa using h4⟩
        · unfold Lib.indexByte
          rw [hb', h1]
          have : ((r : Int) == -1) = false := by simp
          simp [this]
        · show (if b = 32 then [] :: spl l else match spl l with
            | [] => [[b]]
            | w :: ws => (b :: w) :: ws) = _
          rw [if_neg hb, h3]
          rfl
theorem ext_take (s : ByteArray) (r : Nat) : (s.extract 0 r).data.toList = s.data.toList.take r := by
  simp [ByteArray.data_extract]
theorem ext_drop (s : ByteArray) (r : Nat) : (s.extract r s.size).data.toList = s.data.toList.drop r := Lib.extract_to_end s r
set_option maxHeartbeats 400000 in
set_option maxRecDepth 100000 in
theorem Count_c {n : Nat} (hn : 2 ≤ n) (s : ByteArray) (st : Bool) (S : List Ob) : callD E (dcall E n) st S 244 [.str s, .str (ByteArray.mk #[32])] = some (.int .i64 (s.data.toList.count 32 : Nat), S) := by
  obtain ⟨m, rfl⟩ : ∃ m, n = m + 1 := ⟨n - 1, by omega⟩
  have : WO (dcall E (m + 1) 244 [.str s, .str (ByteArray.mk #[32])] []) fun d T => d = .int .i64 (s.data.toList.count 32 : Nat) ∧ T = [] := by
    refine wo_dcall Tryd.func244 rfl (by decide) rfl 34 rfl (fun a hal ha => ?_)
    have h0 : a[0]? = some (.str s) := ha 0 (by simp)
    have h1 : a[1]? = some (.str (ByteArray.mk #[32])) := ha 1 (by simp)
    clear ha
    simp (maxSteps := 1000000) (disch := omega) only [push_cast, ↓wc_seq, ↓wc_block, ↓wc_scope, ↓wc_condL, ↓wc_region, ↓wr_cons, ↓wr_consgL, ↓wr_nil, ↓wo_pickL, ↓wo_callf, ↓wc_exit, ↓wc_ret, ↓wc_skip, ↓wc_wl, wo_some, wo_none, wo_ite, opQ_eq, seqQ_normal, seqQ_exit, seqQ_ret, blockQ_normal, blockQ_exit, blockQ_ret, iterQ_normal, iterQ_exit, iterQ_ret, retQ_normal, retQ_ret, retQ_exit, pickC_true, pickC_false, pickO_true, pickO_false, gstep_tt, gstep_ff, gstep_tf, gstep_ft, gstep_skip, int_bne, int_beq, decide_not, Nat.reduceAdd, Nat.reduceMul, Nat.reduceSub, Nat.reducePow, Nat.reduceLT, Nat.reduceLeDiff, Nat.reduceEqDiff, Int.reduceToNat, Int.reduceAdd, Int.reduceSub, Int.reduceNeg, Int.reduceMul, Int.reduceLT, Int.reduceLE, Int.reduceEq, le_max, ↓wo_build, ↓wo_buildSlice, evParts, ↓reduceIte, planIds, hasExt, cntFs, idxFs, clnFs, ovlFs, List.contains_cons, List.contains_nil, List.any_cons, List.any_nil, Nat.reduceBEq, setC, List.length_set, decide_eq_true_eq, decide_eq_false_iff_not, true_implies, false_implies, forall_const, reduceCtorEq, eq_self, Int.natCast_nonneg, Int.toNat_natCast, Int.ofNat_lt, D.int.injEq, Option.some.injEq, Nat.zero_add, Nat.add_zero, bne_iff_ne, bne_eq_false_iff_eq, beq_iff_eq, beq_eq_false_iff_ne, gt_iff_lt, ne_eq, not_true_eq_false, not_false_eq_true, planIds, hasExt, cntFs, idxFs, clnFs, ovlFs, List.contains_cons, List.contains_nil, List.any_cons, List.any_nil, Nat.reduceBEq, Nat.reduceMul, Nat.reduceAdd, ↓reduceIte, hal, h0, h1, sp_size, sp_get, ext_cnt, dCount, Int.cast_ofNat_Int, Int.natCast_one, Tryd.f244]
    first | done | rfl | trace_state
  exact callD_pure rfl rfl (eq_of_wo this) rfl
set_option maxHeartbeats 400000 in
set_option maxRecDepth 100000 in
theorem Index_c {n : Nat} (hn : 4 ≤ n) (s : ByteArray) (st : Bool) (S : List Ob) : callD E (dcall E n) st S 245 [.str s, .str (ByteArray.mk #[32])] = some (.int .i64 (Lib.indexByte s.data.toList 32), S) := by
  obtain ⟨m, rfl⟩ : ∃ m, n = m + 3 := ⟨n - 3, by omega⟩
  have q1 : ∀ st S, callD E (dcall E (m + 1)) st S 242 [.str s, .int .u8 32] = some (.int .i64 (Lib.indexByte s.data.toList 32), S) := fun st S => by
    have : WO (dcall E (m + 1) 242 [.str s, .int .u8 32] []) fun d T => d = .int .i64 (Lib.indexByte s.data.toList 32) ∧ T = [] := by
      refine wo_dcall Tryd.func242 rfl (by decide) rfl 8 rfl (fun a hal ha => ?_)
      have h0 : a[0]? = some (.str s) := ha 0 (by simp)
      have h1 : a[1]? = some (.int .u8 32) := ha 1 (by simp)
      clear ha
      simp (maxSteps := 1000000) (disch := omega) only [push_cast, ↓wc_seq, ↓wc_block, ↓wc_scope, ↓wc_condL, ↓wc_region, ↓wr_cons, ↓wr_consgL, ↓wr_nil, ↓wo_pickL, ↓wo_callf, ↓wc_exit, ↓wc_ret, ↓wc_skip, ↓wc_wl, wo_some, wo_none, wo_ite, opQ_eq, seqQ_normal, seqQ_exit, seqQ_ret, blockQ_normal, blockQ_exit, blockQ_ret, iterQ_normal, iterQ_exit, iterQ_ret, retQ_normal, retQ_ret, retQ_exit, pickC_true, pickC_false, pickO_true, pickO_false, gstep_tt, gstep_ff, gstep_tf, gstep_ft, gstep_skip, int_bne, int_beq, decide_not, Nat.reduceAdd, Nat.reduceMul, Nat.reduceSub, Nat.reducePow, Nat.reduceLT, Nat.reduceLeDiff, Nat.reduceEqDiff, Int.reduceToNat, Int.reduceAdd, Int.reduceSub, Int.reduceNeg, Int.reduceMul, Int.reduceLT, Int.reduceLE, Int.reduceEq, le_max, ↓wo_build, ↓wo_buildSlice, evParts, ↓reduceIte, planIds, hasExt, cntFs, idxFs, clnFs, ovlFs, List.contains_cons, List.contains_nil, List.any_cons, List.any_nil, Nat.reduceBEq, setC, List.length_set, decide_eq_true_eq, decide_eq_false_iff_not, true_implies, false_implies, forall_const, reduceCtorEq, eq_self, Int.natCast_nonneg, Int.toNat_natCast, Int.ofNat_lt, D.int.injEq, Option.some.injEq, Nat.zero_add, Nat.add_zero, bne_iff_ne, bne_eq_false_iff_eq, beq_iff_eq, beq_eq_false_iff_ne, gt_iff_lt, ne_eq, not_true_eq_false, not_false_eq_true, planIds, hasExt, cntFs, idxFs, clnFs, ovlFs, List.contains_cons, List.contains_nil, List.any_cons, List.any_nil, Nat.reduceBEq, Nat.reduceMul, Nat.reduceAdd, ↓reduceIte, hal, h0, h1, ext_idx, dIndexB, Tryd.f242]
      first | done | rfl | trace_state
    exact callD_pure rfl rfl (eq_of_wo this) rfl
  have q2 : ∀ st S, callD E (dcall E (m + 2)) st S 257 [.str s, .str (ByteArray.mk #[32])] = some (.int .i64 (Lib.indexByte s.data.toList 32), S) := fun st S => by
    have : WO (dcall E (m + 2) 257 [.str s, .str (ByteArray.mk #[32])] []) fun d T => d = .int .i64 (Lib.indexByte s.data.toList 32) ∧ T = [] := by
      refine wo_dcall Tryd.func257 rfl (by decide) rfl 143 rfl (fun a hal ha => ?_)
      have h0 : a[0]? = some (.str s) := ha 0 (by simp)
      have h1 : a[1]? = some (.str (ByteArray.mk #[32])) := ha 1 (by simp)
      clear ha
      cases he : ((ByteArray.mk #[32]).toList == s.toList)
      · simp (maxSteps := 1000000) (disch := omega) only [push_cast, ↓wc_seq, ↓wc_block, ↓wc_scope, ↓wc_condL, ↓wc_region, ↓wr_cons, ↓wr_consgL, ↓wr_nil, ↓wo_pickL, ↓wo_callf, ↓wc_exit, ↓wc_ret, ↓wc_skip, ↓wc_wl, wo_some, wo_none, wo_ite, opQ_eq, seqQ_normal, seqQ_exit, seqQ_ret, blockQ_normal, blockQ_exit, blockQ_ret, iterQ_normal, iterQ_exit, iterQ_ret, retQ_normal, retQ_ret, retQ_exit, pickC_true, pickC_false, pickO_true, pickO_false, gstep_tt, gstep_ff, gstep_tf, gstep_ft, gstep_skip, int_bne, int_beq, decide_not, Nat.reduceAdd, Nat.reduceMul, Nat.reduceSub, Nat.reducePow, Nat.reduceLT, Nat.reduceLeDiff, Nat.reduceEqDiff, Int.reduceToNat, Int.reduceAdd, Int.reduceSub, Int.reduceNeg, Int.reduceMul, Int.reduceLT, Int.reduceLE, Int.reduceEq, le_max, ↓wo_build, ↓wo_buildSlice, evParts, ↓reduceIte, planIds, hasExt, cntFs, idxFs, clnFs, ovlFs, List.contains_cons, List.contains_nil, List.any_cons, List.any_nil, Nat.reduceBEq, setC, List.length_set, decide_eq_true_eq, decide_eq_false_iff_not, true_implies, false_implies, forall_const, reduceCtorEq, eq_self, Int.natCast_nonneg, Int.toNat_natCast, Int.ofNat_lt, D.int.injEq, Option.some.injEq, Nat.zero_add, Nat.add_zero, bne_iff_ne, bne_eq_false_iff_eq, beq_iff_eq, beq_eq_false_iff_ne, gt_iff_lt, ne_eq, not_true_eq_false, not_false_eq_true, planIds, hasExt, cntFs, idxFs, clnFs, ovlFs, List.contains_cons, List.contains_nil, List.any_cons, List.any_nil, Nat.reduceBEq, Nat.reduceMul, Nat.reduceAdd, ↓reduceIte, hal, h0, h1, he, sp_size, sp_get, sp_byte, q1, Int.cast_ofNat_Int, Int.natCast_one, Tryd.f257]
        first | done | rfl | trace_state
      · simp (maxSteps := 1000000) (disch := omega) only [push_cast, ↓wc_seq, ↓wc_block, ↓wc_scope, ↓wc_condL, ↓wc_region, ↓wr_cons, ↓wr_consgL, ↓wr_nil, ↓wo_pickL, ↓wo_callf, ↓wc_exit, ↓wc_ret, ↓wc_skip, ↓wc_wl, wo_some, wo_none, wo_ite, opQ_eq, seqQ_normal, seqQ_exit, seqQ_ret, blockQ_normal, blockQ_exit, blockQ_ret, iterQ_normal, iterQ_exit, iterQ_ret, retQ_normal, retQ_ret, retQ_exit, pickC_true, pickC_false, pickO_true, pickO_false, gstep_tt, gstep_ff, gstep_tf, gstep_ft, gstep_skip, int_bne, int_beq, decide_not, Nat.reduceAdd, Nat.reduceMul, Nat.reduceSub, Nat.reducePow, Nat.reduceLT, Nat.reduceLeDiff, Nat.reduceEqDiff, Int.reduceToNat, Int.reduceAdd, Int.reduceSub, Int.reduceNeg, Int.reduceMul, Int.reduceLT, Int.reduceLE, Int.reduceEq, le_max, ↓wo_build, ↓wo_buildSlice, evParts, ↓reduceIte, planIds, hasExt, cntFs, idxFs, clnFs, ovlFs, List.contains_cons, List.contains_nil, List.any_cons, List.any_nil, Nat.reduceBEq, setC, List.length_set, decide_eq_true_eq, decide_eq_false_iff_not, true_implies, false_implies, forall_const, reduceCtorEq, eq_self, Int.natCast_nonneg, Int.toNat_natCast, Int.ofNat_lt, D.int.injEq, Option.some.injEq, Nat.zero_add, Nat.add_zero, bne_iff_ne, bne_eq_false_iff_eq, beq_iff_eq, beq_eq_false_iff_ne, gt_iff_lt, ne_eq, not_true_eq_false, not_false_eq_true, planIds, hasExt, cntFs, idxFs, clnFs, ovlFs, List.contains_cons, List.contains_nil, List.any_cons, List.any_nil, Nat.reduceBEq, Nat.reduceMul, Nat.reduceAdd, ↓reduceIte, hal, h0, h1, he, sp_size, sp_get, sp_byte, q1, Int.cast_ofNat_Int, Int.natCast_one, Tryd.f257]
        have hs : (ByteArray.mk #[32]) = s := by
          rw [beq_iff_eq, ByteArray.toList_eq, ByteArray.toList_eq] at he
          have h2 : (ByteArray.mk #[32]).data = s.data := Array.toList_inj.1 he
          cases s
          simp only at h2
          rw [← h2]
        subst hs
        rfl
    exact callD_pure rfl rfl (eq_of_wo this) rfl
  have : WO (dcall E (m + 3) 245 [.str s, .str (ByteArray.mk #[32])] []) fun d T => d = .int .i64 (Lib.indexByte s.data.toList 32) ∧ T = [] := by
    refine wo_dcall Tryd.func245 rfl (by decide) rfl 8 rfl (fun a hal ha => ?_)
    have h0 : a[0]? = some (.str s) := ha 0 (by simp)
    have h1 : a[1]? = some (.str (ByteArray.mk #[32])) := ha 1 (by simp)
    clear ha
    simp (maxSteps := 1000000) (disch := omega) only [push_cast, ↓wc_seq, ↓wc_block, ↓wc_scope, ↓wc_condL, ↓wc_region, ↓wr_cons, ↓wr_consgL, ↓wr_nil, ↓wo_pickL, ↓wo_callf, ↓wc_exit, ↓wc_ret, ↓wc_skip, ↓wc_wl, wo_some, wo_none, wo_ite, opQ_eq, seqQ_normal, seqQ_exit, seqQ_ret, blockQ_normal, blockQ_exit, blockQ_ret, iterQ_normal, iterQ_exit, iterQ_ret, retQ_normal, retQ_ret, retQ_exit, pickC_true, pickC_false, pickO_true, pickO_false, gstep_tt, gstep_ff, gstep_tf, gstep_ft, gstep_skip, int_bne, int_beq, decide_not, Nat.reduceAdd, Nat.reduceMul, Nat.reduceSub, Nat.reducePow, Nat.reduceLT, Nat.reduceLeDiff, Nat.reduceEqDiff, Int.reduceToNat, Int.reduceAdd, Int.reduceSub, Int.reduceNeg, Int.reduceMul, Int.reduceLT, Int.reduceLE, Int.reduceEq, le_max, ↓wo_build, ↓wo_buildSlice, evParts, ↓reduceIte, planIds, hasExt, cntFs, idxFs, clnFs, ovlFs, List.contains_cons, List.contains_nil, List.any_cons, List.any_nil, Nat.reduceBEq, setC, List.length_set, decide_eq_true_eq, decide_eq_false_iff_not, true_implies, false_implies, forall_const, reduceCtorEq, eq_self, Int.natCast_nonneg, Int.toNat_natCast, Int.ofNat_lt, D.int.injEq, Option.some.injEq, Nat.zero_add, Nat.add_zero, bne_iff_ne, bne_eq_false_iff_eq, beq_iff_eq, beq_eq_false_iff_ne, gt_iff_lt, ne_eq, not_true_eq_false, not_false_eq_true, planIds, hasExt, cntFs, idxFs, clnFs, ovlFs, List.contains_cons, List.contains_nil, List.any_cons, List.any_nil, Nat.reduceBEq, Nat.reduceMul, Nat.reduceAdd, ↓reduceIte, hal, h0, h1, q2, Tryd.f245]
  exact callD_pure rfl rfl (eq_of_wo this) rfl
end Go.Proofs.YteffefjkcappbaaDoor.Dm
