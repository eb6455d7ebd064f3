/-
  The machine at record locators.
-/
import Derived.Test.YteffefjkcappbaaDoorTxS
import Derived.Test.YteffefjkcappbaaDoorAuV
namespace Go.Proofs.YteffefjkcappbaaDoor.Dm
open Go
set_option linter.unusedSimpArgs false

/-! A loop of a few rounds, round by round. -/
def WLn (E : Env) (call : Call) (n : Nat) (c : Code) (m : Nat) (a : List D) (S : List Ob) (Q : PostX) : Prop := WC (loopD (codeD E call n c) m a S) Q
def loopQ (E : Env) (call : Call) (n : Nat) (c : Code) (m : Nat) (Q : PostX) : PostX
  | .normal, a, S => WLn E call n c m a S Q
  | x, a, S => Q x a S
theorem wl_wln {E : Env} {call : Call} {n : Nat} {c : Code} {a : List D} {S : List Ob} {Q : PostX} : WL E call n c a S Q = WLn E call n c n a S Q := rfl
theorem wln_succ {E : Env} {call : Call} {n m : Nat} {c : Code} {a : List D} {S : List Ob} {Q : PostX} : WLn E call n c (m + 1) a S Q = WC (codeD E call n c a S) (loopQ E call n c m Q) := by
  unfold WLn
  rw [loopD]
  rcases codeD E call n c a S with _ | ⟨d, a', S'⟩
  · simp only [wc_none]
  · cases d <;> simp only [wc_some, loopQ, WLn]
theorem loopQ_normal {E : Env} {call : Call} {n m : Nat} {c : Code} {a : List D} {S : List Ob} {Q : PostX} : loopQ E call n c m Q .normal a S = WLn E call n c m a S Q := rfl
theorem loopQ_exit {E : Env} {call : Call} {n m i : Nat} {c : Code} {a : List D} {S : List Ob} {Q : PostX} : loopQ E call n c m Q (.exit i) a S = Q (.exit i) a S := rfl
theorem loopQ_ret {E : Env} {call : Call} {n m : Nat} {c : Code} {a : List D} {S : List Ob} {Q : PostX} : loopQ E call n c m Q .ret a S = Q .ret a S := rfl

def alph : ByteArray := ByteArray.mk #[50, 51, 52, 53, 54, 55, 56, 57, 65, 66, 67, 68, 69, 70, 71, 72, 74, 75, 76, 77, 78, 80, 81, 82, 83, 84, 85, 86, 87, 88, 89, 90]
def avB (b : UInt8) : Int := Lib.indexByte alph.data.toList b
def ckV (v0 v1 v2 v3 v4 : Int) : Int := (v0 + 3 * v1 + 5 * v2 + 7 * v3 + 9 * v4).tmod 32
set_option maxHeartbeats 800000 in
set_option maxRecDepth 100000 in
theorem loc_check {n : Nat} (hn : 10 ≤ n) {v0 v1 v2 v3 v4 : Int} (h0 : 0 ≤ v0 ∧ v0 < 32) (h1 : 0 ≤ v1 ∧ v1 < 32) (h2 : 0 ≤ v2 ∧ v2 < 32) (h3 : 0 ≤ v3 ∧ v3 < 32) (h4 : 0 ≤ v4 ∧ v4 < 32) (st : Bool) (S : List Ob) :
    callD E (dcall E n) st S 224 [.agg [.int .i64 v0, .int .i64 v1, .int .i64 v2, .int .i64 v3, .int .i64 v4]] = some (.int .i64 (ckV v0 v1 v2 v3 v4), S) := by
  obtain ⟨m, rfl⟩ : ∃ m, n = m + 7 + 1 := ⟨n - 8, by omega⟩
  have : WO (dcall E (m + 7 + 1) 224 [.agg [.int .i64 v0, .int .i64 v1, .int .i64 v2, .int .i64 v3, .int .i64 v4]] []) fun d T => d = .int .i64 (ckV v0 v1 v2 v3 v4) ∧ True := by
    refine wo_dcall Tryd.func224 rfl (by decide) rfl 21 rfl (fun a hal ha => ?_)
    have q0 : a[0]? = some (.agg [.int .i64 v0, .int .i64 v1, .int .i64 v2, .int .i64 v3, .int .i64 v4]) := ha 0 (by simp)
    clear ha
    obtain ⟨x0, y0⟩ := h0; obtain ⟨x1, y1⟩ := h1; obtain ⟨x2, y2⟩ := h2; obtain ⟨x3, y3⟩ := h3; obtain ⟨x4, y4⟩ := h4
    simp (maxSteps := 1000000) (disch := omega) only [push_cast, ↓wc_seq, ↓wc_block, ↓wc_scope, ↓wc_condL, ↓wc_region, ↓wr_cons, ↓wr_consgL, ↓wr_nil, ↓wo_pickL, ↓wo_callf, ↓wc_exit, ↓wc_ret, ↓wc_skip, ↓wc_wl, wo_some, wo_none, wo_ite, opQ_eq, seqQ_normal, seqQ_exit, seqQ_ret, blockQ_normal, blockQ_exit, blockQ_ret, iterQ_normal, iterQ_exit, iterQ_ret, retQ_normal, retQ_ret, retQ_exit, pickC_true, pickC_false, pickO_true, pickO_false, gstep_tt, gstep_ff, gstep_tf, gstep_ft, gstep_skip, int_bne, int_beq, decide_not, Nat.reduceAdd, Nat.reduceMul, Nat.reduceSub, Nat.reducePow, Nat.reduceLT, Nat.reduceLeDiff, Nat.reduceEqDiff, Int.reduceToNat, Int.reduceAdd, Int.reduceSub, Int.reduceNeg, Int.reduceMul, Int.reduceLT, Int.reduceLE, Int.reduceEq, le_max, ↓wo_build, ↓wo_buildSlice, evParts, ↓reduceIte, planIds, hasExt, cntFs, idxFs, clnFs, ovlFs, List.contains_cons, List.contains_nil, List.any_cons, List.any_nil, Nat.reduceBEq, setC, List.length_set, decide_eq_true_eq, decide_eq_false_iff_not, true_implies, false_implies, forall_const, reduceCtorEq, eq_self, Int.natCast_nonneg, Int.toNat_natCast, Int.ofNat_lt, D.int.injEq, Option.some.injEq, Nat.zero_add, Nat.add_zero, bne_iff_ne, bne_eq_false_iff_eq, beq_iff_eq, beq_eq_false_iff_ne, gt_iff_lt, ne_eq, not_true_eq_false, not_false_eq_true, planIds, hasExt, cntFs, idxFs, clnFs, ovlFs, List.contains_cons, List.contains_nil, List.any_cons, List.any_nil, Nat.reduceBEq, Nat.reduceMul, Nat.reduceAdd, ↓reduceIte, hal, q0, set_end, get_end, wl_wln, ↓wln_succ, loopQ_normal, loopQ_exit, loopQ_ret, wrap_ok, Tryd.f224]
    unfold ckV
    congr 1
    omega
  obtain ⟨d, T, ho, rfl, -⟩ := this
  exact callD_pure rfl (by simp [pureL, D.pure]) ho rfl
theorem avB_bd (b : UInt8) : avB b = -1 ∨ (0 ≤ avB b ∧ avB b < 32) := by
  have key : ∀ l : List UInt8, Lib.indexByte l b = -1 ∨ (0 ≤ Lib.indexByte l b ∧ Lib.indexByte l b < l.length) := fun l => by
    induction l with
    | nil => exact .inl rfl
    | cons c l ih =>
      unfold Lib.indexByte
      split
      · right; simp
      · rcases ih with h | h
        · rw [h]; exact .inl rfl
        · right
          have : (Lib.indexByte l b == -1) = false := by
            rw [int_beq]; exact decide_eq_false (by omega)
          rw [this]
          simp
          omega
  have := key alph.data.toList
  simpa [avB, alph] using this
theorem ck_bd {v0 v1 v2 v3 v4 : Int} (h0 : 0 ≤ v0) (h1 : 0 ≤ v1) (h2 : 0 ≤ v2) (h3 : 0 ≤ v3) (h4 : 0 ≤ v4) : 0 ≤ ckV v0 v1 v2 v3 v4 ∧ ckV v0 v1 v2 v3 v4 < 32 :=
  ⟨Int.tmod_nonneg 32 (by omega), Int.tmod_lt_of_pos _ (by omega)⟩
def alB (k : Nat) : UInt8 := (alph[k]?).getD 0
theorem alph_at {k : Nat} (h : k < 32) : alph[k]? = some (alB k) := by
  have hk : k < alph.size := h
  unfold alB
  rw [show alph[k]? = some alph[k] by simp [hk]]
  rfl
theorem Idx_c {n : Nat} (hn : 2 ≤ n) (b : UInt8) (st : Bool) (S : List Ob) : callD E (dcall E n) st S 223 [.str alph, .int .u8 b.toNat] = some (.int .i64 (avB b), S) := by
  obtain ⟨m, rfl⟩ : ∃ m, n = m + 2 := ⟨n - 2, by omega⟩
  have hb : ((b.toNat : Int).toNat.toUInt8) = b := by simp
  have q1 : ∀ st S, callD E (dcall E (m + 1)) st S 242 [.str alph, .int .u8 b.toNat] = some (.int .i64 (avB b), S) := fun st S => by
    have : WO (dcall E (m + 1) 242 [.str alph, .int .u8 b.toNat] []) fun d T => d = .int .i64 (avB b) ∧ T = [] := by
      refine wo_dcall Tryd.func242 rfl (by decide) rfl 8 rfl (fun a hal ha => ?_)
      have h0 : a[0]? = some (.str alph) := ha 0 (by simp)
      have h1 : a[1]? = some (.int .u8 b.toNat) := ha 1 (by simp)
      clear ha
      simp (maxSteps := 1000000) (disch := omega) only [push_cast, ↓wc_seq, ↓wc_block, ↓wc_scope, ↓wc_condL, ↓wc_region, ↓wr_cons, ↓wr_consgL, ↓wr_nil, ↓wo_pickL, ↓wo_callf, ↓wc_exit, ↓wc_ret, ↓wc_skip, ↓wc_wl, wo_some, wo_none, wo_ite, opQ_eq, seqQ_normal, seqQ_exit, seqQ_ret, blockQ_normal, blockQ_exit, blockQ_ret, iterQ_normal, iterQ_exit, iterQ_ret, retQ_normal, retQ_ret, retQ_exit, pickC_true, pickC_false, pickO_true, pickO_false, gstep_tt, gstep_ff, gstep_tf, gstep_ft, gstep_skip, int_bne, int_beq, decide_not, Nat.reduceAdd, Nat.reduceMul, Nat.reduceSub, Nat.reducePow, Nat.reduceLT, Nat.reduceLeDiff, Nat.reduceEqDiff, Int.reduceToNat, Int.reduceAdd, Int.reduceSub, Int.reduceNeg, Int.reduceMul, Int.reduceLT, Int.reduceLE, Int.reduceEq, le_max, ↓wo_build, ↓wo_buildSlice, evParts, ↓reduceIte, planIds, hasExt, cntFs, idxFs, clnFs, ovlFs, List.contains_cons, List.contains_nil, List.any_cons, List.any_nil, Nat.reduceBEq, setC, List.length_set, decide_eq_true_eq, decide_eq_false_iff_not, true_implies, false_implies, forall_const, reduceCtorEq, eq_self, Int.natCast_nonneg, Int.toNat_natCast, Int.ofNat_lt, D.int.injEq, Option.some.injEq, Nat.zero_add, Nat.add_zero, bne_iff_ne, bne_eq_false_iff_eq, beq_iff_eq, beq_eq_false_iff_ne, gt_iff_lt, ne_eq, not_true_eq_false, not_false_eq_true, planIds, hasExt, cntFs, idxFs, clnFs, ovlFs, List.contains_cons, List.contains_nil, List.any_cons, List.any_nil, Nat.reduceBEq, Nat.reduceMul, Nat.reduceAdd, ↓reduceIte, hal, h0, h1, ext_idx, dIndexB, Tryd.f242]
      rw [show avB b = Lib.indexByte alph.data.toList b from rfl]
      simp
    exact callD_pure rfl rfl (eq_of_wo this) rfl
  have : WO (dcall E (m + 2) 223 [.str alph, .int .u8 b.toNat] []) fun d T => d = .int .i64 (avB b) ∧ T = [] := by
    refine wo_dcall Tryd.func223 rfl (by decide) rfl 8 rfl (fun a hal ha => ?_)
    have h0 : a[0]? = some (.str alph) := ha 0 (by simp)
    have h1 : a[1]? = some (.int .u8 b.toNat) := ha 1 (by simp)
    clear ha
    simp (maxSteps := 1000000) (disch := omega) only [push_cast, ↓wc_seq, ↓wc_block, ↓wc_scope, ↓wc_condL, ↓wc_region, ↓wr_cons, ↓wr_consgL, ↓wr_nil, ↓wo_pickL, ↓wo_callf, ↓wc_exit, ↓wc_ret, ↓wc_skip, ↓wc_wl, wo_some, wo_none, wo_ite, opQ_eq, seqQ_normal, seqQ_exit, seqQ_ret, blockQ_normal, blockQ_exit, blockQ_ret, iterQ_normal, iterQ_exit, iterQ_ret, retQ_normal, retQ_ret, retQ_exit, pickC_true, pickC_false, pickO_true, pickO_false, gstep_tt, gstep_ff, gstep_tf, gstep_ft, gstep_skip, int_bne, int_beq, decide_not, Nat.reduceAdd, Nat.reduceMul, Nat.reduceSub, Nat.reducePow, Nat.reduceLT, Nat.reduceLeDiff, Nat.reduceEqDiff, Int.reduceToNat, Int.reduceAdd, Int.reduceSub, Int.reduceNeg, Int.reduceMul, Int.reduceLT, Int.reduceLE, Int.reduceEq, le_max, ↓wo_build, ↓wo_buildSlice, evParts, ↓reduceIte, planIds, hasExt, cntFs, idxFs, clnFs, ovlFs, List.contains_cons, List.contains_nil, List.any_cons, List.any_nil, Nat.reduceBEq, setC, List.length_set, decide_eq_true_eq, decide_eq_false_iff_not, true_implies, false_implies, forall_const, reduceCtorEq, eq_self, Int.natCast_nonneg, Int.toNat_natCast, Int.ofNat_lt, D.int.injEq, Option.some.injEq, Nat.zero_add, Nat.add_zero, bne_iff_ne, bne_eq_false_iff_eq, beq_iff_eq, beq_eq_false_iff_ne, gt_iff_lt, ne_eq, not_true_eq_false, not_false_eq_true, planIds, hasExt, cntFs, idxFs, clnFs, ovlFs, List.contains_cons, List.contains_nil, List.any_cons, List.any_nil, Nat.reduceBEq, Nat.reduceMul, Nat.reduceAdd, ↓reduceIte, hal, h0, h1, q1, Tryd.f223]
  exact callD_pure rfl rfl (eq_of_wo this) rfl
def bAt (s : ByteArray) (i : Nat) : UInt8 := (s[i]?).getD 0
/-- Is a text a record locator? -/
def locR (s : ByteArray) : Bool :=
  decide (s.size = 6) && decide (0 ≤ avB (bAt s 0)) && decide (0 ≤ avB (bAt s 1)) && decide (0 ≤ avB (bAt s 2)) && decide (0 ≤ avB (bAt s 3)) && decide (0 ≤ avB (bAt s 4)) &&
    decide ((bAt s 5).toNat = (alB (ckV (avB (bAt s 0)) (avB (bAt s 1)) (avB (bAt s 2)) (avB (bAt s 3)) (avB (bAt s 4))).toNat).toNat)
set_option maxHeartbeats 2000000 in
set_option maxRecDepth 100000 in
theorem loc_number {n : Nat} (hn : 20 ≤ n) (s : ByteArray) (S : List Ob) : WO (dcall E (n + 1) 190 [.str s] S) fun d _ => ∃ x, d = .tup [.int .i64 x, .int .i64 (if locR s = true then 0 else 3)] := by
  obtain ⟨m, rfl⟩ : ∃ m, n = m + 7 := ⟨n - 7, by omega⟩
  have ix := fun b => Idx_c (n := m + 7) (by omega) b
  unfold alph at ix
  refine wo_dcall Tryd.func190 rfl (by decide) rfl 35 rfl (fun a hal ha => ?_)
  have h0 : a[0]? = some (.str s) := ha 0 (by simp)
  clear ha
  by_cases hs : s.size = 6
  · have hs' : (s.size : Int) = 6 := by omega
    have hb : ∀ i, i < 6 → s[i]? = some (bAt s i) := fun i hi => by
      unfold bAt
      obtain ⟨b, hb⟩ := byte_at' (s := s) (i := i) (by omega)
      rw [hb]; rfl
    have b0 := hb 0 (by omega); have b1 := hb 1 (by omega); have b2 := hb 2 (by omega); have b3 := hb 3 (by omega); have b4 := hb 4 (by omega); have b5 := hb 5 (by omega)
    clear hb
    unfold locR
    generalize bAt s 0 = c0 at *
    generalize bAt s 1 = c1 at *
    generalize bAt s 2 = c2 at *
    generalize bAt s 3 = c3 at *
    generalize bAt s 4 = c4 at *
    generalize bAt s 5 = c5 at *
    rcases avB_bd c0 with k0 | ⟨k0, l0⟩
    · simp (maxSteps := 1000000) (disch := omega) only [push_cast, ↓wc_seq, ↓wc_block, ↓wc_scope, ↓wc_condL, ↓wc_region, ↓wr_cons, ↓wr_consgL, ↓wr_nil, ↓wo_pickL, ↓wo_callf, ↓wc_exit, ↓wc_ret, ↓wc_skip, ↓wc_wl, wo_some, wo_none, wo_ite, opQ_eq, seqQ_normal, seqQ_exit, seqQ_ret, blockQ_normal, blockQ_exit, blockQ_ret, iterQ_normal, iterQ_exit, iterQ_ret, retQ_normal, retQ_ret, retQ_exit, pickC_true, pickC_false, pickO_true, pickO_false, gstep_tt, gstep_ff, gstep_tf, gstep_ft, gstep_skip, int_bne, int_beq, decide_not, Nat.reduceAdd, Nat.reduceMul, Nat.reduceSub, Nat.reducePow, Nat.reduceLT, Nat.reduceLeDiff, Nat.reduceEqDiff, Int.reduceToNat, Int.reduceAdd, Int.reduceSub, Int.reduceNeg, Int.reduceMul, Int.reduceLT, Int.reduceLE, Int.reduceEq, le_max, ↓wo_build, ↓wo_buildSlice, evParts, ↓reduceIte, planIds, hasExt, cntFs, idxFs, clnFs, ovlFs, List.contains_cons, List.contains_nil, List.any_cons, List.any_nil, Nat.reduceBEq, setC, List.length_set, decide_eq_true_eq, decide_eq_false_iff_not, true_implies, false_implies, forall_const, reduceCtorEq, eq_self, Int.natCast_nonneg, Int.toNat_natCast, Int.ofNat_lt, D.int.injEq, Option.some.injEq, Nat.zero_add, Nat.add_zero, bne_iff_ne, bne_eq_false_iff_eq, beq_iff_eq, beq_eq_false_iff_ne, gt_iff_lt, ne_eq, not_true_eq_false, not_false_eq_true, planIds, hasExt, cntFs, idxFs, clnFs, ovlFs, List.contains_cons, List.contains_nil, List.any_cons, List.any_nil, Nat.reduceBEq, Nat.reduceMul, Nat.reduceAdd, ↓reduceIte, hal, h0, hs', wl_wln, ↓wln_succ, loopQ_normal, loopQ_exit, loopQ_ret, wrap_ok, ix, set_end, get_end, b0, k0, Tryd.f190]
      exact ⟨_, rfl⟩
    have n0 : ¬ avB c0 < 0 := by omega
    rcases avB_bd c1 with k1 | ⟨k1, l1⟩
    · simp (maxSteps := 1000000) (disch := omega) only [push_cast, ↓wc_seq, ↓wc_block, ↓wc_scope, ↓wc_condL, ↓wc_region, ↓wr_cons, ↓wr_consgL, ↓wr_nil, ↓wo_pickL, ↓wo_callf, ↓wc_exit, ↓wc_ret, ↓wc_skip, ↓wc_wl, wo_some, wo_none, wo_ite, opQ_eq, seqQ_normal, seqQ_exit, seqQ_ret, blockQ_normal, blockQ_exit, blockQ_ret, iterQ_normal, iterQ_exit, iterQ_ret, retQ_normal, retQ_ret, retQ_exit, pickC_true, pickC_false, pickO_true, pickO_false, gstep_tt, gstep_ff, gstep_tf, gstep_ft, gstep_skip, int_bne, int_beq, decide_not, Nat.reduceAdd, Nat.reduceMul, Nat.reduceSub, Nat.reducePow, Nat.reduceLT, Nat.reduceLeDiff, Nat.reduceEqDiff, Int.reduceToNat, Int.reduceAdd, Int.reduceSub, Int.reduceNeg, Int.reduceMul, Int.reduceLT, Int.reduceLE, Int.reduceEq, le_max, ↓wo_build, ↓wo_buildSlice, evParts, ↓reduceIte, planIds, hasExt, cntFs, idxFs, clnFs, ovlFs, List.contains_cons, List.contains_nil, List.any_cons, List.any_nil, Nat.reduceBEq, setC, List.length_set, decide_eq_true_eq, decide_eq_false_iff_not, true_implies, false_implies, forall_const, reduceCtorEq, eq_self, Int.natCast_nonneg, Int.toNat_natCast, Int.ofNat_lt, D.int.injEq, Option.some.injEq, Nat.zero_add, Nat.add_zero, bne_iff_ne, bne_eq_false_iff_eq, beq_iff_eq, beq_eq_false_iff_ne, gt_iff_lt, ne_eq, not_true_eq_false, not_false_eq_true, planIds, hasExt, cntFs, idxFs, clnFs, ovlFs, List.contains_cons, List.contains_nil, List.any_cons, List.any_nil, Nat.reduceBEq, Nat.reduceMul, Nat.reduceAdd, ↓reduceIte, hal, h0, hs', wl_wln, ↓wln_succ, loopQ_normal, loopQ_exit, loopQ_ret, wrap_ok, ix, set_end, get_end, b0, n0, k0, b1, k1, Tryd.f190]
      exact ⟨_, rfl⟩
    have n1 : ¬ avB c1 < 0 := by omega
    rcases avB_bd c2 with k2 | ⟨k2, l2⟩
    · simp (maxSteps := 1000000) (disch := omega) only [push_cast, ↓wc_seq, ↓wc_block, ↓wc_scope, ↓wc_condL, ↓wc_region, ↓wr_cons, ↓wr_consgL, ↓wr_nil, ↓wo_pickL, ↓wo_callf, ↓wc_exit, ↓wc_ret, ↓wc_skip, ↓wc_wl, wo_some, wo_none, wo_ite, opQ_eq, seqQ_normal, seqQ_exit, seqQ_ret, blockQ_normal, blockQ_exit, blockQ_ret, iterQ_normal, iterQ_exit, iterQ_ret, retQ_normal, retQ_ret, retQ_exit, pickC_true, pickC_false, pickO_true, pickO_false, gstep_tt, gstep_ff, gstep_tf, gstep_ft, gstep_skip, int_bne, int_beq, decide_not, Nat.reduceAdd, Nat.reduceMul, Nat.reduceSub, Nat.reducePow, Nat.reduceLT, Nat.reduceLeDiff, Nat.reduceEqDiff, Int.reduceToNat, Int.reduceAdd, Int.reduceSub, Int.reduceNeg, Int.reduceMul, Int.reduceLT, Int.reduceLE, Int.reduceEq, le_max, ↓wo_build, ↓wo_buildSlice, evParts, ↓reduceIte, planIds, hasExt, cntFs, idxFs, clnFs, ovlFs, List.contains_cons, List.contains_nil, List.any_cons, List.any_nil, Nat.reduceBEq, setC, List.length_set, decide_eq_true_eq, decide_eq_false_iff_not, true_implies, false_implies, forall_const, reduceCtorEq, eq_self, Int.natCast_nonneg, Int.toNat_natCast, Int.ofNat_lt, D.int.injEq, Option.some.injEq, Nat.zero_add, Nat.add_zero, bne_iff_ne, bne_eq_false_iff_eq, beq_iff_eq, beq_eq_false_iff_ne, gt_iff_lt, ne_eq, not_true_eq_false, not_false_eq_true, planIds, hasExt, cntFs, idxFs, clnFs, ovlFs, List.contains_cons, List.contains_nil, List.any_cons, List.any_nil, Nat.reduceBEq, Nat.reduceMul, Nat.reduceAdd, ↓reduceIte, hal, h0, hs', wl_wln, ↓wln_succ, loopQ_normal, loopQ_exit, loopQ_ret, wrap_ok, ix, set_end, get_end, b0, n0, k0, b1, n1, k1, b2, k2, Tryd.f190]
      exact ⟨_, rfl⟩
    have n2 : ¬ avB c2 < 0 := by omega
    rcases avB_bd c3 with k3 | ⟨k3, l3⟩
    · simp (maxSteps := 1000000) (disch := omega) only [push_cast, ↓wc_seq, ↓wc_block, ↓wc_scope, ↓wc_condL, ↓wc_region, ↓wr_cons, ↓wr_consgL, ↓wr_nil, ↓wo_pickL, ↓wo_callf, ↓wc_exit, ↓wc_ret, ↓wc_skip, ↓wc_wl, wo_some, wo_none, wo_ite, opQ_eq, seqQ_normal, seqQ_exit, seqQ_ret, blockQ_normal, blockQ_exit, blockQ_ret, iterQ_normal, iterQ_exit, iterQ_ret, retQ_normal, retQ_ret, retQ_exit, pickC_true, pickC_false, pickO_true, pickO_false, gstep_tt, gstep_ff, gstep_tf, gstep_ft, gstep_skip, int_bne, int_beq, decide_not, Nat.reduceAdd, Nat.reduceMul, Nat.reduceSub, Nat.reducePow, Nat.reduceLT, Nat.reduceLeDiff, Nat.reduceEqDiff, Int.reduceToNat, Int.reduceAdd, Int.reduceSub, Int.reduceNeg, Int.reduceMul, Int.reduceLT, Int.reduceLE, Int.reduceEq, le_max, ↓wo_build, ↓wo_buildSlice, evParts, ↓reduceIte, planIds, hasExt, cntFs, idxFs, clnFs, ovlFs, List.contains_cons, List.contains_nil, List.any_cons, List.any_nil, Nat.reduceBEq, setC, List.length_set, decide_eq_true_eq, decide_eq_false_iff_not, true_implies, false_implies, forall_const, reduceCtorEq, eq_self, Int.natCast_nonneg, Int.toNat_natCast, Int.ofNat_lt, D.int.injEq, Option.some.injEq, Nat.zero_add, Nat.add_zero, bne_iff_ne, bne_eq_false_iff_eq, beq_iff_eq, beq_eq_false_iff_ne, gt_iff_lt, ne_eq, not_true_eq_false, not_false_eq_true, planIds, hasExt, cntFs, idxFs, clnFs, ovlFs, List.contains_cons, List.contains_nil, List.any_cons, List.any_nil, Nat.reduceBEq, Nat.reduceMul, Nat.reduceAdd, ↓reduceIte, hal, h0, hs', wl_wln, ↓wln_succ, loopQ_normal, loopQ_exit, loopQ_ret, wrap_ok, ix, set_end, get_end, b0, n0, k0, b1, n1, k1, b2, n2, k2, b3, k3, Tryd.f190]
      exact ⟨_, rfl⟩
    have n3 : ¬ avB c3 < 0 := by omega
    rcases avB_bd c4 with k4 | ⟨k4, l4⟩
    · simp (maxSteps := 1000000) (disch := omega) only [push_cast, ↓wc_seq, ↓wc_block, ↓wc_scope, ↓wc_condL, ↓wc_region, ↓wr_cons, ↓wr_consgL, ↓wr_nil, ↓wo_pickL, ↓wo_callf, ↓wc_exit, ↓wc_ret, ↓wc_skip, ↓wc_wl, wo_some, wo_none, wo_ite, opQ_eq, seqQ_normal, seqQ_exit, seqQ_ret, blockQ_normal, blockQ_exit, blockQ_ret, iterQ_normal, iterQ_exit, iterQ_ret, retQ_normal, retQ_ret, retQ_exit, pickC_true, pickC_false, pickO_true, pickO_false, gstep_tt, gstep_ff, gstep_tf, gstep_ft, gstep_skip, int_bne, int_beq, decide_not, Nat.reduceAdd, Nat.reduceMul, Nat.reduceSub, Nat.reducePow, Nat.reduceLT, Nat.reduceLeDiff, Nat.reduceEqDiff, Int.reduceToNat, Int.reduceAdd, Int.reduceSub, Int.reduceNeg, Int.reduceMul, Int.reduceLT, Int.reduceLE, Int.reduceEq, le_max, ↓wo_build, ↓wo_buildSlice, evParts, ↓reduceIte, planIds, hasExt, cntFs, idxFs, clnFs, ovlFs, List.contains_cons, List.contains_nil, List.any_cons, List.any_nil, Nat.reduceBEq, setC, List.length_set, decide_eq_true_eq, decide_eq_false_iff_not, true_implies, false_implies, forall_const, reduceCtorEq, eq_self, Int.natCast_nonneg, Int.toNat_natCast, Int.ofNat_lt, D.int.injEq, Option.some.injEq, Nat.zero_add, Nat.add_zero, bne_iff_ne, bne_eq_false_iff_eq, beq_iff_eq, beq_eq_false_iff_ne, gt_iff_lt, ne_eq, not_true_eq_false, not_false_eq_true, planIds, hasExt, cntFs, idxFs, clnFs, ovlFs, List.contains_cons, List.contains_nil, List.any_cons, List.any_nil, Nat.reduceBEq, Nat.reduceMul, Nat.reduceAdd, ↓reduceIte, hal, h0, hs', wl_wln, ↓wln_succ, loopQ_normal, loopQ_exit, loopQ_ret, wrap_ok, ix, set_end, get_end, b0, n0, k0, b1, n1, k1, b2, n2, k2, b3, n3, k3, b4, k4, Tryd.f190]
      exact ⟨_, rfl⟩
    have n4 : ¬ avB c4 < 0 := by omega
    have ck := loc_check (n := m + 7) (by omega) ⟨k0, l0⟩ ⟨k1, l1⟩ ⟨k2, l2⟩ ⟨k3, l3⟩ ⟨k4, l4⟩
    obtain ⟨d0, d1⟩ := ck_bd k0 k1 k2 k3 k4
    have al := alph_at (k := (ckV (avB c0) (avB c1) (avB c2) (avB c3) (avB c4)).toNat) (by omega)
    unfold alph at al
    generalize ckV (avB c0) (avB c1) (avB c2) (avB c3) (avB c4) = q at *
    by_cases e : c5.toNat = (alB q.toNat).toNat
    · have e' : ((c5.toNat : Nat) : Int) = ((alB q.toNat).toNat : Nat) := by omega
      simp (maxSteps := 1000000) (disch := omega) only [push_cast, ↓wc_seq, ↓wc_block, ↓wc_scope, ↓wc_condL, ↓wc_region, ↓wr_cons, ↓wr_consgL, ↓wr_nil, ↓wo_pickL, ↓wo_callf, ↓wc_exit, ↓wc_ret, ↓wc_skip, ↓wc_wl, wo_some, wo_none, wo_ite, opQ_eq, seqQ_normal, seqQ_exit, seqQ_ret, blockQ_normal, blockQ_exit, blockQ_ret, iterQ_normal, iterQ_exit, iterQ_ret, retQ_normal, retQ_ret, retQ_exit, pickC_true, pickC_false, pickO_true, pickO_false, gstep_tt, gstep_ff, gstep_tf, gstep_ft, gstep_skip, int_bne, int_beq, decide_not, Nat.reduceAdd, Nat.reduceMul, Nat.reduceSub, Nat.reducePow, Nat.reduceLT, Nat.reduceLeDiff, Nat.reduceEqDiff, Int.reduceToNat, Int.reduceAdd, Int.reduceSub, Int.reduceNeg, Int.reduceMul, Int.reduceLT, Int.reduceLE, Int.reduceEq, le_max, ↓wo_build, ↓wo_buildSlice, evParts, ↓reduceIte, planIds, hasExt, cntFs, idxFs, clnFs, ovlFs, List.contains_cons, List.contains_nil, List.any_cons, List.any_nil, Nat.reduceBEq, setC, List.length_set, decide_eq_true_eq, decide_eq_false_iff_not, true_implies, false_implies, forall_const, reduceCtorEq, eq_self, Int.natCast_nonneg, Int.toNat_natCast, Int.ofNat_lt, D.int.injEq, Option.some.injEq, Nat.zero_add, Nat.add_zero, bne_iff_ne, bne_eq_false_iff_eq, beq_iff_eq, beq_eq_false_iff_ne, gt_iff_lt, ne_eq, not_true_eq_false, not_false_eq_true, planIds, hasExt, cntFs, idxFs, clnFs, ovlFs, List.contains_cons, List.contains_nil, List.any_cons, List.any_nil, Nat.reduceBEq, Nat.reduceMul, Nat.reduceAdd, ↓reduceIte, hal, h0, hs', wl_wln, ↓wln_succ, loopQ_normal, loopQ_exit, loopQ_ret, wrap_ok, ix, set_end, get_end, b0, n0, k0, b1, n1, k1, b2, n2, k2, b3, n3, k3, b4, n4, k4, b5, ck, d0, al, e, e', Bool.and_true, Tryd.f190]
      exact ⟨_, by rw [if_pos hs]⟩
    · have e' : ¬ ((c5.toNat : Nat) : Int) = ((alB q.toNat).toNat : Nat) := by omega
      simp (maxSteps := 1000000) (disch := omega) only [push_cast, ↓wc_seq, ↓wc_block, ↓wc_scope, ↓wc_condL, ↓wc_region, ↓wr_cons, ↓wr_consgL, ↓wr_nil, ↓wo_pickL, ↓wo_callf, ↓wc_exit, ↓wc_ret, ↓wc_skip, ↓wc_wl, wo_some, wo_none, wo_ite, opQ_eq, seqQ_normal, seqQ_exit, seqQ_ret, blockQ_normal, blockQ_exit, blockQ_ret, iterQ_normal, iterQ_exit, iterQ_ret, retQ_normal, retQ_ret, retQ_exit, pickC_true, pickC_false, pickO_true, pickO_false, gstep_tt, gstep_ff, gstep_tf, gstep_ft, gstep_skip, int_bne, int_beq, decide_not, Nat.reduceAdd, Nat.reduceMul, Nat.reduceSub, Nat.reducePow, Nat.reduceLT, Nat.reduceLeDiff, Nat.reduceEqDiff, Int.reduceToNat, Int.reduceAdd, Int.reduceSub, Int.reduceNeg, Int.reduceMul, Int.reduceLT, Int.reduceLE, Int.reduceEq, le_max, ↓wo_build, ↓wo_buildSlice, evParts, ↓reduceIte, planIds, hasExt, cntFs, idxFs, clnFs, ovlFs, List.contains_cons, List.contains_nil, List.any_cons, List.any_nil, Nat.reduceBEq, setC, List.length_set, decide_eq_true_eq, decide_eq_false_iff_not, true_implies, false_implies, forall_const, reduceCtorEq, eq_self, Int.natCast_nonneg, Int.toNat_natCast, Int.ofNat_lt, D.int.injEq, Option.some.injEq, Nat.zero_add, Nat.add_zero, bne_iff_ne, bne_eq_false_iff_eq, beq_iff_eq, beq_eq_false_iff_ne, gt_iff_lt, ne_eq, not_true_eq_false, not_false_eq_true, planIds, hasExt, cntFs, idxFs, clnFs, ovlFs, List.contains_cons, List.contains_nil, List.any_cons, List.any_nil, Nat.reduceBEq, Nat.reduceMul, Nat.reduceAdd, ↓reduceIte, hal, h0, hs', wl_wln, ↓wln_succ, loopQ_normal, loopQ_exit, loopQ_ret, wrap_ok, ix, set_end, get_end, b0, n0, k0, b1, n1, k1, b2, n2, k2, b3, n3, k3, b4, n4, k4, b5, ck, d0, al, e, e', Bool.and_false, Tryd.f190]
      exact ⟨_, rfl⟩
  · have hs' : ¬ (s.size : Int) = 6 := by omega
    have hr : locR s = false := by unfold locR; simp [hs]
    simp (maxSteps := 1000000) (disch := omega) only [push_cast, ↓wc_seq, ↓wc_block, ↓wc_scope, ↓wc_condL, ↓wc_region, ↓wr_cons, ↓wr_consgL, ↓wr_nil, ↓wo_pickL, ↓wo_callf, ↓wc_exit, ↓wc_ret, ↓wc_skip, ↓wc_wl, wo_some, wo_none, wo_ite, opQ_eq, seqQ_normal, seqQ_exit, seqQ_ret, blockQ_normal, blockQ_exit, blockQ_ret, iterQ_normal, iterQ_exit, iterQ_ret, retQ_normal, retQ_ret, retQ_exit, pickC_true, pickC_false, pickO_true, pickO_false, gstep_tt, gstep_ff, gstep_tf, gstep_ft, gstep_skip, int_bne, int_beq, decide_not, Nat.reduceAdd, Nat.reduceMul, Nat.reduceSub, Nat.reducePow, Nat.reduceLT, Nat.reduceLeDiff, Nat.reduceEqDiff, Int.reduceToNat, Int.reduceAdd, Int.reduceSub, Int.reduceNeg, Int.reduceMul, Int.reduceLT, Int.reduceLE, Int.reduceEq, le_max, ↓wo_build, ↓wo_buildSlice, evParts, ↓reduceIte, planIds, hasExt, cntFs, idxFs, clnFs, ovlFs, List.contains_cons, List.contains_nil, List.any_cons, List.any_nil, Nat.reduceBEq, setC, List.length_set, decide_eq_true_eq, decide_eq_false_iff_not, true_implies, false_implies, forall_const, reduceCtorEq, eq_self, Int.natCast_nonneg, Int.toNat_natCast, Int.ofNat_lt, D.int.injEq, Option.some.injEq, Nat.zero_add, Nat.add_zero, bne_iff_ne, bne_eq_false_iff_eq, beq_iff_eq, beq_eq_false_iff_ne, gt_iff_lt, ne_eq, not_true_eq_false, not_false_eq_true, planIds, hasExt, cntFs, idxFs, clnFs, ovlFs, List.contains_cons, List.contains_nil, List.any_cons, List.any_nil, Nat.reduceBEq, Nat.reduceMul, Nat.reduceAdd, ↓reduceIte, hal, h0, hs', hr, Tryd.f190]
    exact ⟨_, rfl⟩
theorem loc_right {n : Nat} (hn : 40 ≤ n) (s : ByteArray) (st : Bool) (S : List Ob) : callD E (dcall E n) st S 135 [.str s] = some (.bool (locR s), S) := by
  obtain ⟨m, rfl⟩ : ∃ m, n = m + 2 := ⟨n - 2, by omega⟩
  obtain ⟨d, T, ho, x, rfl⟩ := loc_number (n := m) (by omega) s []
  have q : ∀ st S, callD E (dcall E (m + 1)) st S 190 [.str s] = some (.tup [.int .i64 x, .int .i64 (if locR s = true then 0 else 3)], S) := fun st S => callD_pure rfl rfl ho (by rfl)
  have : WO (dcall E (m + 2) 135 [.str s] []) fun d T => d = .bool (locR s) ∧ T = [] := by
    refine wo_dcall Tryd.func135 rfl (by decide) rfl 12 rfl (fun a hal ha => ?_)
    have h0 : a[0]? = some (.str s) := ha 0 (by simp)
    clear ha
    generalize locR s = b at *
    cases b <;>
    · simp only [if_true, if_false, Bool.false_eq_true] at q
      simp (maxSteps := 1000000) (disch := omega) only [push_cast, ↓wc_seq, ↓wc_block, ↓wc_scope, ↓wc_condL, ↓wc_region, ↓wr_cons, ↓wr_consgL, ↓wr_nil, ↓wo_pickL, ↓wo_callf, ↓wc_exit, ↓wc_ret, ↓wc_skip, ↓wc_wl, wo_some, wo_none, wo_ite, opQ_eq, seqQ_normal, seqQ_exit, seqQ_ret, blockQ_normal, blockQ_exit, blockQ_ret, iterQ_normal, iterQ_exit, iterQ_ret, retQ_normal, retQ_ret, retQ_exit, pickC_true, pickC_false, pickO_true, pickO_false, gstep_tt, gstep_ff, gstep_tf, gstep_ft, gstep_skip, int_bne, int_beq, decide_not, Nat.reduceAdd, Nat.reduceMul, Nat.reduceSub, Nat.reducePow, Nat.reduceLT, Nat.reduceLeDiff, Nat.reduceEqDiff, Int.reduceToNat, Int.reduceAdd, Int.reduceSub, Int.reduceNeg, Int.reduceMul, Int.reduceLT, Int.reduceLE, Int.reduceEq, le_max, ↓wo_build, ↓wo_buildSlice, evParts, ↓reduceIte, planIds, hasExt, cntFs, idxFs, clnFs, ovlFs, List.contains_cons, List.contains_nil, List.any_cons, List.any_nil, Nat.reduceBEq, setC, List.length_set, decide_eq_true_eq, decide_eq_false_iff_not, true_implies, false_implies, forall_const, reduceCtorEq, eq_self, Int.natCast_nonneg, Int.toNat_natCast, Int.ofNat_lt, D.int.injEq, Option.some.injEq, Nat.zero_add, Nat.add_zero, bne_iff_ne, bne_eq_false_iff_eq, beq_iff_eq, beq_eq_false_iff_ne, gt_iff_lt, ne_eq, not_true_eq_false, not_false_eq_true, planIds, hasExt, cntFs, idxFs, clnFs, ovlFs, List.contains_cons, List.contains_nil, List.any_cons, List.any_nil, Nat.reduceBEq, Nat.reduceMul, Nat.reduceAdd, ↓reduceIte, hal, h0, q, Tryd.f135]
  exact callD_pure rfl rfl (eq_of_wo this) rfl
end Go.Proofs.YteffefjkcappbaaDoor.Dm
