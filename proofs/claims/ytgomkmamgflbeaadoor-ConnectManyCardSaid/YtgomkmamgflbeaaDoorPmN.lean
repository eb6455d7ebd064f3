/-
  How many journeys there are between parallel segments.
  The machine at ConnectMany.
-/
import Derived.Test.YtgomkmamgflbeaaDoorPmA
namespace Go.Proofs.YtgomkmamgflbeaaDoor.Dm
open Go Gw
set_option linter.unusedSimpArgs false

theorem many_0 : (List.range 40).all (fun k => decide ((dfs [] (manyS k) sAAA sCCC 1 []).length = k)) = true := by kernel_rfl
theorem many_1 : (List.range 20).all (fun k => decide ((dfs [] (manyS k) sAAA sCCC 2 []).length = k + k * k)) = true := by kernel_rfl
theorem many_1b : (List.range 10).all (fun k => decide ((dfs [] (manyS (20 + k)) sAAA sCCC 2 []).length = (20 + k) + (20 + k) * (20 + k))) = true := by kernel_rfl
theorem many_1c : (List.range 10).all (fun k => decide ((dfs [] (manyS (30 + k)) sAAA sCCC 2 []).length = (30 + k) + (30 + k) * (30 + k))) = true := by kernel_rfl
theorem many_2 : (List.range 20).all (fun k => decide ((dfs [] (manyS k) sAAA sCCC 3 []).length = k + k * k)) = true := by kernel_rfl
theorem many_2b : (List.range 10).all (fun k => decide ((dfs [] (manyS (20 + k)) sAAA sCCC 3 []).length = (20 + k) + (20 + k) * (20 + k))) = true := by kernel_rfl
theorem many_2c : (List.range 10).all (fun k => decide ((dfs [] (manyS (30 + k)) sAAA sCCC 3 []).length = (30 + k) + (30 + k) * (30 + k))) = true := by kernel_rfl
theorem many_len {k m : Nat} (hk : k < 40) (hm : m ≤ 2) : (dfs [] (manyS k) sAAA sCCC (m + 1) []).length = if m = 0 then k else k + k * k := by
  have pick : ∀ (p : Nat → Bool) a b, a ≤ k → k < a + b → (List.range b).all (fun j => p (a + j)) = true → p k = true := fun p a b h1 h2 h => by
    have := List.all_eq_true.1 h (k - a) (List.mem_range.2 (by omega))
    rwa [show a + (k - a) = k by omega] at this
  match m, hm with
  | 0, _ => exact of_decide_eq_true (List.all_eq_true.1 many_0 k (List.mem_range.2 hk))
  | 1, _ =>
    rw [if_neg (by omega)]
    by_cases h1 : k < 20
    · exact of_decide_eq_true (List.all_eq_true.1 many_1 k (List.mem_range.2 h1))
    by_cases h2 : k < 30
    · exact of_decide_eq_true (pick (fun k => decide ((dfs [] (manyS k) sAAA sCCC 2 []).length = k + k * k)) 20 10 (by omega) (by omega) many_1b)
    · exact of_decide_eq_true (pick (fun k => decide ((dfs [] (manyS k) sAAA sCCC 2 []).length = k + k * k)) 30 10 (by omega) (by omega) many_1c)
  | 2, _ =>
    rw [if_neg (by omega)]
    by_cases h1 : k < 20
    · exact of_decide_eq_true (List.all_eq_true.1 many_2 k (List.mem_range.2 h1))
    by_cases h2 : k < 30
    · exact of_decide_eq_true (pick (fun k => decide ((dfs [] (manyS k) sAAA sCCC 3 []).length = k + k * k)) 20 10 (by omega) (by omega) many_2b)
    · exact of_decide_eq_true (pick (fun k => decide ((dfs [] (manyS k) sAAA sCCC 3 []).length = k + k * k)) 30 10 (by omega) (by omega) many_2c)

/-- How a list is shown of which the length alone counts. -/
def LenD (d : D) (n : Nat) : Prop := (d = .nils ∧ n = 0) ∨ (∃ k, d = .os k 0 n false) ∨ ∃ es x, d = .sl 1 es x ∧ es.length = n
set_option maxHeartbeats 8000000 in
set_option maxRecDepth 100000 in
theorem ConnectMany_d {n : Nat} (hn : 4000 ≤ n) {v : Int} (hv0 : 0 ≤ v) (hv1 : v ≤ 255) {mo : Int} :
    WO (dcall E (n + 1) 6 [.int .u8 v, .int .i64 mo] []) fun d _ => d = .bool true := by
  have ck := knows_c (n := n) (by omega)
  obtain ⟨k, hk, hk40⟩ : ∃ k : Nat, v.tmod 40 = k ∧ k < 40 := by
    have h1 := Int.tmod_nonneg 40 hv0
    have h2 := Int.tmod_lt_of_pos v (show (0 : Int) < 40 by omega)
    exact ⟨(v.tmod 40).toNat, by omega, by omega⟩
  have hw : IntKind.i64.wrap (k : Int) = k := wrap_ok (by omega) (by omega)
  refine wo_dcall Tryd.func6 rfl (by decide) rfl 88 rfl (fun a hal ha => ?_)
  have h0 : a[0]? = some (.int .u8 v) := ha 0 (by simp)
  have h1 : a[1]? = some (.int .i64 mo) := ha 1 (by simp)
  clear ha
  rw [wc_asc, wc_asc]
  refine wc_scut (fun a T => T = [] ∧ a.length = 88 ∧ a[1]? = some (.int .i64 mo) ∧ a[5]? = some (.nils) ∧ a[6]? = some (.int .i64 k)) ?_ ?_
  · simp (maxSteps := 1000000) (disch := omega) only [push_cast, ↓wc_seq, ↓wc_block, ↓wc_scope, ↓wc_condL, ↓wc_region, ↓wr_cons, ↓wr_consgL, ↓wr_nil, ↓wo_pickL, ↓wo_callf, ↓wc_exit, ↓wc_ret, ↓wc_skip, ↓wc_wl, wo_some, wo_none, wo_ite, opQ_eq, seqQ_normal, seqQ_exit, seqQ_ret, blockQ_normal, blockQ_exit, blockQ_ret, iterQ_normal, iterQ_exit, iterQ_ret, retQ_normal, retQ_ret, retQ_exit, pickC_true, pickC_false, pickO_true, pickO_false, gstep_tt, gstep_ff, gstep_tf, gstep_ft, gstep_skip, int_bne, int_beq, decide_not, Nat.reduceAdd, Nat.reduceMul, Nat.reduceSub, Nat.reducePow, Nat.reduceLT, Nat.reduceLeDiff, Nat.reduceEqDiff, Int.reduceToNat, Int.reduceAdd, Int.reduceSub, Int.reduceNeg, Int.reduceMul, Int.reduceLT, Int.reduceLE, Int.reduceEq, le_max, ↓wo_build, ↓wo_buildSlice, evParts, ↓reduceIte, planIds, hasExt, cntFs, idxFs, clnFs, ovlFs, List.contains_cons, List.contains_nil, List.any_cons, List.any_nil, Nat.reduceBEq, setC, List.length_set, decide_eq_true_eq, decide_eq_false_iff_not, true_implies, false_implies, forall_const, reduceCtorEq, eq_self, Int.natCast_nonneg, Int.toNat_natCast, Int.ofNat_lt, D.int.injEq, Option.some.injEq, Nat.zero_add, Nat.add_zero, bne_iff_ne, bne_eq_false_iff_eq, beq_iff_eq, beq_eq_false_iff_ne, gt_iff_lt, ne_eq, not_true_eq_false, not_false_eq_true, planIds, hasExt, cntFs, idxFs, clnFs, ovlFs, List.contains_cons, List.contains_nil, List.any_cons, List.any_nil, Nat.reduceBEq, Nat.reduceMul, Nat.reduceAdd, ↓reduceIte, hal, h0, h1, hk, hw]
  clear hal h0 h1 a
  rintro a T ⟨rfl, hal, h1, h5, h6⟩
  refine wc_scut (fun a T => ∃ d, a.length = 88 ∧ a[1]? = some (.int .i64 mo) ∧ a[5]? = some (d) ∧ a[6]? = some (.int .i64 k) ∧ GL 7 Sgm.enc T d (manyS k)) ?_ ?_
  · simp (maxSteps := 1000000) (disch := omega) only [push_cast, ↓wc_seq, ↓wc_block, ↓wc_scope, ↓wc_condL, ↓wc_region, ↓wr_cons, ↓wr_consgL, ↓wr_nil, ↓wo_pickL, ↓wo_callf, ↓wc_exit, ↓wc_ret, ↓wc_skip, ↓wc_wl, wo_some, wo_none, wo_ite, opQ_eq, seqQ_normal, seqQ_exit, seqQ_ret, blockQ_normal, blockQ_exit, blockQ_ret, iterQ_normal, iterQ_exit, iterQ_ret, retQ_normal, retQ_ret, retQ_exit, pickC_true, pickC_false, pickO_true, pickO_false, gstep_tt, gstep_ff, gstep_tf, gstep_ft, gstep_skip, int_bne, int_beq, decide_not, Nat.reduceAdd, Nat.reduceMul, Nat.reduceSub, Nat.reducePow, Nat.reduceLT, Nat.reduceLeDiff, Nat.reduceEqDiff, Int.reduceToNat, Int.reduceAdd, Int.reduceSub, Int.reduceNeg, Int.reduceMul, Int.reduceLT, Int.reduceLE, Int.reduceEq, le_max, ↓wo_build, ↓wo_buildSlice, evParts, ↓reduceIte, planIds, hasExt, cntFs, idxFs, clnFs, ovlFs, List.contains_cons, List.contains_nil, List.any_cons, List.any_nil, Nat.reduceBEq, setC, List.length_set, decide_eq_true_eq, decide_eq_false_iff_not, true_implies, false_implies, forall_const, reduceCtorEq, eq_self, Int.natCast_nonneg, Int.toNat_natCast, Int.ofNat_lt, D.int.injEq, Option.some.injEq, Nat.zero_add, Nat.add_zero, bne_iff_ne, bne_eq_false_iff_eq, beq_iff_eq, beq_eq_false_iff_ne, gt_iff_lt, ne_eq, not_true_eq_false, not_false_eq_true, planIds, hasExt, cntFs, idxFs, clnFs, ovlFs, List.contains_cons, List.contains_nil, List.any_cons, List.any_nil, Nat.reduceBEq, Nat.reduceMul, Nat.reduceAdd, ↓reduceIte, hal, h1, h5, h6]
    refine wl_loop (fun i a T => ∃ d, a.length = 88 ∧ a[1]? = some (.int .i64 mo) ∧ a[5]? = some (d) ∧ a[6]? = some (.int .i64 k) ∧ a[7]? = some (.int .i64 i) ∧ GL 7 Sgm.enc T d (manyS i)) k ?_ (by omega) ?_
    · simp (maxSteps := 1000000) (disch := omega) only [push_cast, ↓wc_seq, ↓wc_block, ↓wc_scope, ↓wc_condL, ↓wc_region, ↓wr_cons, ↓wr_consgL, ↓wr_nil, ↓wo_pickL, ↓wo_callf, ↓wc_exit, ↓wc_ret, ↓wc_skip, ↓wc_wl, wo_some, wo_none, wo_ite, opQ_eq, seqQ_normal, seqQ_exit, seqQ_ret, blockQ_normal, blockQ_exit, blockQ_ret, iterQ_normal, iterQ_exit, iterQ_ret, retQ_normal, retQ_ret, retQ_exit, pickC_true, pickC_false, pickO_true, pickO_false, gstep_tt, gstep_ff, gstep_tf, gstep_ft, gstep_skip, int_bne, int_beq, decide_not, Nat.reduceAdd, Nat.reduceMul, Nat.reduceSub, Nat.reducePow, Nat.reduceLT, Nat.reduceLeDiff, Nat.reduceEqDiff, Int.reduceToNat, Int.reduceAdd, Int.reduceSub, Int.reduceNeg, Int.reduceMul, Int.reduceLT, Int.reduceLE, Int.reduceEq, le_max, ↓wo_build, ↓wo_buildSlice, evParts, ↓reduceIte, planIds, hasExt, cntFs, idxFs, clnFs, ovlFs, List.contains_cons, List.contains_nil, List.any_cons, List.any_nil, Nat.reduceBEq, setC, List.length_set, decide_eq_true_eq, decide_eq_false_iff_not, true_implies, false_implies, forall_const, reduceCtorEq, eq_self, Int.natCast_nonneg, Int.toNat_natCast, Int.ofNat_lt, D.int.injEq, Option.some.injEq, Nat.zero_add, Nat.add_zero, bne_iff_ne, bne_eq_false_iff_eq, beq_iff_eq, beq_eq_false_iff_ne, gt_iff_lt, ne_eq, not_true_eq_false, not_false_eq_true, planIds, hasExt, cntFs, idxFs, clnFs, ovlFs, List.contains_cons, List.contains_nil, List.any_cons, List.any_nil, Nat.reduceBEq, Nat.reduceMul, Nat.reduceAdd, ↓reduceIte, hal, h1, h5, h6, Int.natCast_zero]
      exact ⟨_, rfl, .inl ⟨rfl, rfl⟩⟩
    clear hal h1 h5 h6 a
    rintro i a T hi ⟨d, hal, h1, h5, h6, h7, hg⟩
    rcases Nat.lt_or_eq_of_le hi with hlt | rfl
    case inr =>
      simp (maxSteps := 1000000) (disch := omega) only [push_cast, ↓wc_seq, ↓wc_block, ↓wc_scope, ↓wc_condL, ↓wc_region, ↓wr_cons, ↓wr_consgL, ↓wr_nil, ↓wo_pickL, ↓wo_callf, ↓wc_exit, ↓wc_ret, ↓wc_skip, ↓wc_wl, wo_some, wo_none, wo_ite, opQ_eq, seqQ_normal, seqQ_exit, seqQ_ret, blockQ_normal, blockQ_exit, blockQ_ret, iterQ_normal, iterQ_exit, iterQ_ret, retQ_normal, retQ_ret, retQ_exit, pickC_true, pickC_false, pickO_true, pickO_false, gstep_tt, gstep_ff, gstep_tf, gstep_ft, gstep_skip, int_bne, int_beq, decide_not, Nat.reduceAdd, Nat.reduceMul, Nat.reduceSub, Nat.reducePow, Nat.reduceLT, Nat.reduceLeDiff, Nat.reduceEqDiff, Int.reduceToNat, Int.reduceAdd, Int.reduceSub, Int.reduceNeg, Int.reduceMul, Int.reduceLT, Int.reduceLE, Int.reduceEq, le_max, ↓wo_build, ↓wo_buildSlice, evParts, ↓reduceIte, planIds, hasExt, cntFs, idxFs, clnFs, ovlFs, List.contains_cons, List.contains_nil, List.any_cons, List.any_nil, Nat.reduceBEq, setC, List.length_set, decide_eq_true_eq, decide_eq_false_iff_not, true_implies, false_implies, forall_const, reduceCtorEq, eq_self, Int.natCast_nonneg, Int.toNat_natCast, Int.ofNat_lt, D.int.injEq, Option.some.injEq, Nat.zero_add, Nat.add_zero, bne_iff_ne, bne_eq_false_iff_eq, beq_iff_eq, beq_eq_false_iff_ne, gt_iff_lt, ne_eq, not_true_eq_false, not_false_eq_true, planIds, hasExt, cntFs, idxFs, clnFs, ovlFs, List.contains_cons, List.contains_nil, List.any_cons, List.any_nil, Nat.reduceBEq, Nat.reduceMul, Nat.reduceAdd, ↓reduceIte, hal, h1, h5, h6, h7, Nat.lt_irrefl]
      exact ⟨d, rfl, hg⟩
    obtain ⟨W, hW, hgW, -⟩ := app_segs (xs := m3 i) hg (by rw [manyS_len]; omega) (by simp [m3]) (by simp [m3])
    have hw1 : IntKind.i64.wrap ((i : Int) + 1) = (i : Int) + 1 := wrap_ok (by omega) (by omega)
    have hw2 : IntKind.i64.wrap (300 + (i : Int)) = 300 + (i : Int) := wrap_ok (by omega) (by omega)
    simp only [m3, List.map_cons, List.map_nil, Sgm.enc, sBA, sAF, sU2, sAAA, sBBB, sCCC] at hW
    simp (maxSteps := 1000000) (disch := omega) only [push_cast, ↓wc_seq, ↓wc_block, ↓wc_scope, ↓wc_condL, ↓wc_region, ↓wr_cons, ↓wr_consgL, ↓wr_nil, ↓wo_pickL, ↓wo_callf, ↓wc_exit, ↓wc_ret, ↓wc_skip, ↓wc_wl, wo_some, wo_none, wo_ite, opQ_eq, seqQ_normal, seqQ_exit, seqQ_ret, blockQ_normal, blockQ_exit, blockQ_ret, iterQ_normal, iterQ_exit, iterQ_ret, retQ_normal, retQ_ret, retQ_exit, pickC_true, pickC_false, pickO_true, pickO_false, gstep_tt, gstep_ff, gstep_tf, gstep_ft, gstep_skip, int_bne, int_beq, decide_not, Nat.reduceAdd, Nat.reduceMul, Nat.reduceSub, Nat.reducePow, Nat.reduceLT, Nat.reduceLeDiff, Nat.reduceEqDiff, Int.reduceToNat, Int.reduceAdd, Int.reduceSub, Int.reduceNeg, Int.reduceMul, Int.reduceLT, Int.reduceLE, Int.reduceEq, le_max, ↓wo_build, ↓wo_buildSlice, evParts, ↓reduceIte, planIds, hasExt, cntFs, idxFs, clnFs, ovlFs, List.contains_cons, List.contains_nil, List.any_cons, List.any_nil, Nat.reduceBEq, setC, List.length_set, decide_eq_true_eq, decide_eq_false_iff_not, true_implies, false_implies, forall_const, reduceCtorEq, eq_self, Int.natCast_nonneg, Int.toNat_natCast, Int.ofNat_lt, D.int.injEq, Option.some.injEq, Nat.zero_add, Nat.add_zero, bne_iff_ne, bne_eq_false_iff_eq, beq_iff_eq, beq_eq_false_iff_ne, gt_iff_lt, ne_eq, not_true_eq_false, not_false_eq_true, planIds, hasExt, cntFs, idxFs, clnFs, ovlFs, List.contains_cons, List.contains_nil, List.any_cons, List.any_nil, Nat.reduceBEq, Nat.reduceMul, Nat.reduceAdd, ↓reduceIte, hal, h1, h5, h6, h7, hlt, hw1, hw2, hW, Int.natCast_add, Int.natCast_one]
    exact ⟨_, rfl, hgW⟩
  clear hal h1 h5 h6 a
  rintro a T ⟨d, hal, h1, h5, h6, hg⟩
  have hsd : SegD T d (manyS k) := by
    rcases hg with ⟨h1, h2⟩ | ⟨q, h1, h2⟩
    · exact .inl ⟨h1, h2⟩
    · exact .inr (.inr ⟨q, h1, h2⟩)
  have key : ∃ r e T' N, callD E (dcall E n) false T 20 [.nils, d, .str (ByteArray.mk #[65, 65, 65]), .str (ByteArray.mk #[67, 67, 67]), .int .i64 mo] = some (.tup [r, .int .i64 e], T') ∧ LenD r N ∧ ((mo < 1 ∨ 3 < mo) ∧ N = 0 ∧ e = 2 ∨ ∃ m : Nat, mo = ((m + 1 : Nat) : Int) ∧ m ≤ 2 ∧ (1024 < (dfs [] (manyS k) sAAA sCCC (m + 1) []).length ∧ N = 0 ∧ e = 4 ∨ (dfs [] (manyS k) sAAA sCCC (m + 1) []).length ≤ 1024 ∧ N = (dfs [] (manyS k) sAAA sCCC (m + 1) []).length ∧ e = 0)) := by
    have run : ∀ S, SegD S d (manyS k) → WO (dcall E (n - 1 + 1) 20 [.nils, d, .str sAAA, .str sCCC, .int .i64 mo] S) fun r T => PathsR [] (manyS k) sAAA sCCC mo r T := fun S hS => Paths_d (by rw [manyS_len]; simp; omega) (fun n hn st S a b ha hb => Fits0_c (by simp at hn; omega) ha hb st S) rfl (by rcases hg with ⟨rfl, -⟩ | ⟨q, rfl, -⟩ <;> rfl) (manyS_near k (by omega)) (by rw [manyS_len]; omega) hS
    rw [show n - 1 + 1 = n by omega] at run
    rcases hg with ⟨rfl, hk0⟩ | ⟨q, rfl, hq⟩
    · -- nothing
      obtain ⟨r, T', ho, h⟩ := run [] (.inl ⟨rfl, hk0⟩)
      rcases h with ⟨h1, rfl⟩ | ⟨m, h1, h2, h3⟩
      · exact ⟨_, _, _, _, callD_pure rfl rfl ho rfl, .inl ⟨rfl, rfl⟩, .inl ⟨h1, rfl, rfl⟩⟩
      · rcases h3 with ⟨h3, rfl⟩ | ⟨h3, d, o, rfl, h5, h6, h7, h8⟩
        · exact ⟨_, _, _, _, callD_pure rfl rfl ho rfl, .inl ⟨rfl, rfl⟩, .inr ⟨m, h1, h2, .inl ⟨h3, rfl, rfl⟩⟩⟩
        · have hd0 : dfs [] (manyS k) sAAA sCCC (m + 1) [] = [] := by rw [hk0]; rfl
          rw [hd0] at h7
          have ho0 : o = [] := by
            have := h7.length_eq
            simpa using this
          subst ho0
          have hfz : ∃ d', freeze T' 40 (.tup [d, .int .i64 0]) = some (.tup [d', .int .i64 0]) ∧ LenD d' 0 := by
            rcases h5 with ⟨rfl, -⟩ | ⟨kk, rfl, hkk⟩
            · exact ⟨_, rfl, .inl ⟨rfl, rfl⟩⟩
            · have h := freeze_os (n := 37) (x := false) hkk rfl
              simp only [List.map_nil, List.length_nil] at h
              refine ⟨.sl 1 [] false, ?_, .inr (.inr ⟨_, _, rfl, rfl⟩)⟩
              unfold freeze
              rw [if_neg (by simp [D.pure, pureL_cons])]
              simp only [mapO, List.length_nil, h, freeze_pure (show (D.int .i64 0).pure = true from rfl), Option.map_some]
          obtain ⟨d', hf, hl⟩ := hfz
          exact ⟨_, _, _, _, callD_pure rfl rfl ho hf, hl, .inr ⟨m, h1, h2, .inr ⟨h3, by rw [hd0]; rfl, rfl⟩⟩⟩
    · obtain ⟨r, T', ho, h⟩ := run T hsd
      have ho := (callD_own (f := 20) rfl (by simp [pureL_cons, D.pure])).trans ho
      rcases h with ⟨h1, rfl⟩ | ⟨m, h1, h2, h3⟩
      · exact ⟨_, _, _, _, ho, .inl ⟨rfl, rfl⟩, .inl ⟨h1, rfl, rfl⟩⟩
      · rcases h3 with ⟨h3, rfl⟩ | ⟨h3, d, o, rfl, h5, h6, h7, h8⟩
        · exact ⟨_, _, _, _, ho, .inl ⟨rfl, rfl⟩, .inr ⟨m, h1, h2, .inl ⟨h3, rfl, rfl⟩⟩⟩
        · have hlen : o.length = (dfs [] (manyS k) sAAA sCCC (m + 1) []).length := by
            have := h7.length_eq
            rwa [List.length_map] at this
          refine ⟨_, _, _, _, ho, ?_, .inr ⟨m, h1, h2, .inr ⟨h3, rfl, rfl⟩⟩⟩
          rcases h5 with ⟨rfl, h5⟩ | ⟨kk, rfl, hkk⟩
          · exact .inl ⟨rfl, by rw [← hlen, h5]; rfl⟩
          · exact .inr (.inl ⟨kk, by rw [hlen]⟩)
  obtain ⟨r, e, T', N, hc, hL, hcase⟩ := key
  refine wc_scut (fun a T => T = T' ∧ a.length = 88 ∧ a[1]? = some (.int .i64 mo) ∧ a[6]? = some (.int .i64 k) ∧ a[8]? = some (r) ∧ a[9]? = some (.int .i64 e)) ?_ ?_
  · simp (maxSteps := 1000000) (disch := omega) only [push_cast, ↓wc_seq, ↓wc_block, ↓wc_scope, ↓wc_condL, ↓wc_region, ↓wr_cons, ↓wr_consgL, ↓wr_nil, ↓wo_pickL, ↓wo_callf, ↓wc_exit, ↓wc_ret, ↓wc_skip, ↓wc_wl, wo_some, wo_none, wo_ite, opQ_eq, seqQ_normal, seqQ_exit, seqQ_ret, blockQ_normal, blockQ_exit, blockQ_ret, iterQ_normal, iterQ_exit, iterQ_ret, retQ_normal, retQ_ret, retQ_exit, pickC_true, pickC_false, pickO_true, pickO_false, gstep_tt, gstep_ff, gstep_tf, gstep_ft, gstep_skip, int_bne, int_beq, decide_not, Nat.reduceAdd, Nat.reduceMul, Nat.reduceSub, Nat.reducePow, Nat.reduceLT, Nat.reduceLeDiff, Nat.reduceEqDiff, Int.reduceToNat, Int.reduceAdd, Int.reduceSub, Int.reduceNeg, Int.reduceMul, Int.reduceLT, Int.reduceLE, Int.reduceEq, le_max, ↓wo_build, ↓wo_buildSlice, evParts, ↓reduceIte, planIds, hasExt, cntFs, idxFs, clnFs, ovlFs, List.contains_cons, List.contains_nil, List.any_cons, List.any_nil, Nat.reduceBEq, setC, List.length_set, decide_eq_true_eq, decide_eq_false_iff_not, true_implies, false_implies, forall_const, reduceCtorEq, eq_self, Int.natCast_nonneg, Int.toNat_natCast, Int.ofNat_lt, D.int.injEq, Option.some.injEq, Nat.zero_add, Nat.add_zero, bne_iff_ne, bne_eq_false_iff_eq, beq_iff_eq, beq_eq_false_iff_ne, gt_iff_lt, ne_eq, not_true_eq_false, not_false_eq_true, planIds, hasExt, cntFs, idxFs, clnFs, ovlFs, List.contains_cons, List.contains_nil, List.any_cons, List.any_nil, Nat.reduceBEq, Nat.reduceMul, Nat.reduceAdd, ↓reduceIte, hal, h1, h5, h6, hc]
  clear hal h1 h5 h6 a
  clear hc hg hsd
  rintro a T ⟨rfl, hal, h1, h6, h8, h9⟩
  rcases hcase with ⟨hm, hN, rfl⟩ | ⟨m, hm, hm2, hcase⟩
  · have hN' : (N : Int) = 0 := by omega
    by_cases g1 : mo < 1
    · rcases hL with ⟨rfl, rfl⟩ | ⟨q, rfl⟩ | ⟨es, x, rfl, rfl⟩ <;>
      · simp (maxSteps := 1000000) (disch := omega) only [push_cast, ↓wc_seq, ↓wc_block, ↓wc_scope, ↓wc_condL, ↓wc_region, ↓wr_cons, ↓wr_consgL, ↓wr_nil, ↓wo_pickL, ↓wo_callf, ↓wc_exit, ↓wc_ret, ↓wc_skip, ↓wc_wl, wo_some, wo_none, wo_ite, opQ_eq, seqQ_normal, seqQ_exit, seqQ_ret, blockQ_normal, blockQ_exit, blockQ_ret, iterQ_normal, iterQ_exit, iterQ_ret, retQ_normal, retQ_ret, retQ_exit, pickC_true, pickC_false, pickO_true, pickO_false, gstep_tt, gstep_ff, gstep_tf, gstep_ft, gstep_skip, int_bne, int_beq, decide_not, Nat.reduceAdd, Nat.reduceMul, Nat.reduceSub, Nat.reducePow, Nat.reduceLT, Nat.reduceLeDiff, Nat.reduceEqDiff, Int.reduceToNat, Int.reduceAdd, Int.reduceSub, Int.reduceNeg, Int.reduceMul, Int.reduceLT, Int.reduceLE, Int.reduceEq, le_max, ↓wo_build, ↓wo_buildSlice, evParts, ↓reduceIte, planIds, hasExt, cntFs, idxFs, clnFs, ovlFs, List.contains_cons, List.contains_nil, List.any_cons, List.any_nil, Nat.reduceBEq, setC, List.length_set, decide_eq_true_eq, decide_eq_false_iff_not, true_implies, false_implies, forall_const, reduceCtorEq, eq_self, Int.natCast_nonneg, Int.toNat_natCast, Int.ofNat_lt, D.int.injEq, Option.some.injEq, Nat.zero_add, Nat.add_zero, bne_iff_ne, bne_eq_false_iff_eq, beq_iff_eq, beq_eq_false_iff_ne, gt_iff_lt, ne_eq, not_true_eq_false, not_false_eq_true, planIds, hasExt, cntFs, idxFs, clnFs, ovlFs, List.contains_cons, List.contains_nil, List.any_cons, List.any_nil, Nat.reduceBEq, Nat.reduceMul, Nat.reduceAdd, ↓reduceIte, hal, h1, h6, h8, h9, g1, hN', ck, Tryd.f6]
    · have g2 : 3 < mo := by omega
      rcases hL with ⟨rfl, rfl⟩ | ⟨q, rfl⟩ | ⟨es, x, rfl, rfl⟩ <;>
      · simp (maxSteps := 1000000) (disch := omega) only [push_cast, ↓wc_seq, ↓wc_block, ↓wc_scope, ↓wc_condL, ↓wc_region, ↓wr_cons, ↓wr_consgL, ↓wr_nil, ↓wo_pickL, ↓wo_callf, ↓wc_exit, ↓wc_ret, ↓wc_skip, ↓wc_wl, wo_some, wo_none, wo_ite, opQ_eq, seqQ_normal, seqQ_exit, seqQ_ret, blockQ_normal, blockQ_exit, blockQ_ret, iterQ_normal, iterQ_exit, iterQ_ret, retQ_normal, retQ_ret, retQ_exit, pickC_true, pickC_false, pickO_true, pickO_false, gstep_tt, gstep_ff, gstep_tf, gstep_ft, gstep_skip, int_bne, int_beq, decide_not, Nat.reduceAdd, Nat.reduceMul, Nat.reduceSub, Nat.reducePow, Nat.reduceLT, Nat.reduceLeDiff, Nat.reduceEqDiff, Int.reduceToNat, Int.reduceAdd, Int.reduceSub, Int.reduceNeg, Int.reduceMul, Int.reduceLT, Int.reduceLE, Int.reduceEq, le_max, ↓wo_build, ↓wo_buildSlice, evParts, ↓reduceIte, planIds, hasExt, cntFs, idxFs, clnFs, ovlFs, List.contains_cons, List.contains_nil, List.any_cons, List.any_nil, Nat.reduceBEq, setC, List.length_set, decide_eq_true_eq, decide_eq_false_iff_not, true_implies, false_implies, forall_const, reduceCtorEq, eq_self, Int.natCast_nonneg, Int.toNat_natCast, Int.ofNat_lt, D.int.injEq, Option.some.injEq, Nat.zero_add, Nat.add_zero, bne_iff_ne, bne_eq_false_iff_eq, beq_iff_eq, beq_eq_false_iff_ne, gt_iff_lt, ne_eq, not_true_eq_false, not_false_eq_true, planIds, hasExt, cntFs, idxFs, clnFs, ovlFs, List.contains_cons, List.contains_nil, List.any_cons, List.any_nil, Nat.reduceBEq, Nat.reduceMul, Nat.reduceAdd, ↓reduceIte, hal, h1, h6, h8, h9, g1, g2, gt_iff_lt, hN', ck, Tryd.f6]
  have g1 : ¬ mo < 1 := by omega
  have g2 : ¬ 3 < mo := by omega
  have hml := many_len hk40 hm2
  obtain ⟨w, hw⟩ : ∃ w, w = if m = 0 then k else k + k * k := ⟨_, rfl⟩
  rw [← hw] at hml
  rw [hml] at hcase
  have hkk : k * k ≤ 1600 := Nat.le_trans (Nat.mul_le_mul (show k ≤ 40 by omega) (show k ≤ 40 by omega)) (by decide)
  have hwl : w ≤ 2000 := by rw [hw]; split <;> omega
  rw [wc_asc, wc_asc]
  refine wc_scut (fun a T' => T' = T ∧ a.length = 88 ∧ a[8]? = some (r) ∧ a[9]? = some (.int .i64 e) ∧ a[10]? = some (.int .i64 w)) ?_ ?_
  · have hkc : ((k : Int) * (k : Int)) = ((k * k : Nat) : Int) := by simp
    by_cases g3 : m = 0
    · rw [if_pos g3] at hw
      have g4 : ¬ 1 < mo := by omega
      simp (maxSteps := 1000000) (disch := omega) only [push_cast, ↓wc_seq, ↓wc_block, ↓wc_scope, ↓wc_condL, ↓wc_region, ↓wr_cons, ↓wr_consgL, ↓wr_nil, ↓wo_pickL, ↓wo_callf, ↓wc_exit, ↓wc_ret, ↓wc_skip, ↓wc_wl, wo_some, wo_none, wo_ite, opQ_eq, seqQ_normal, seqQ_exit, seqQ_ret, blockQ_normal, blockQ_exit, blockQ_ret, iterQ_normal, iterQ_exit, iterQ_ret, retQ_normal, retQ_ret, retQ_exit, pickC_true, pickC_false, pickO_true, pickO_false, gstep_tt, gstep_ff, gstep_tf, gstep_ft, gstep_skip, int_bne, int_beq, decide_not, Nat.reduceAdd, Nat.reduceMul, Nat.reduceSub, Nat.reducePow, Nat.reduceLT, Nat.reduceLeDiff, Nat.reduceEqDiff, Int.reduceToNat, Int.reduceAdd, Int.reduceSub, Int.reduceNeg, Int.reduceMul, Int.reduceLT, Int.reduceLE, Int.reduceEq, le_max, ↓wo_build, ↓wo_buildSlice, evParts, ↓reduceIte, planIds, hasExt, cntFs, idxFs, clnFs, ovlFs, List.contains_cons, List.contains_nil, List.any_cons, List.any_nil, Nat.reduceBEq, setC, List.length_set, decide_eq_true_eq, decide_eq_false_iff_not, true_implies, false_implies, forall_const, reduceCtorEq, eq_self, Int.natCast_nonneg, Int.toNat_natCast, Int.ofNat_lt, D.int.injEq, Option.some.injEq, Nat.zero_add, Nat.add_zero, bne_iff_ne, bne_eq_false_iff_eq, beq_iff_eq, beq_eq_false_iff_ne, gt_iff_lt, ne_eq, not_true_eq_false, not_false_eq_true, planIds, hasExt, cntFs, idxFs, clnFs, ovlFs, List.contains_cons, List.contains_nil, List.any_cons, List.any_nil, Nat.reduceBEq, Nat.reduceMul, Nat.reduceAdd, ↓reduceIte, hal, h1, h6, h8, h9, g1, g2, g4, gt_iff_lt, hw]
    · rw [if_neg g3] at hw
      have g4 : 1 < mo := by omega
      have w1 : IntKind.i64.wrap ((k : Int) * (k : Int)) = ((k * k : Nat) : Int) := by rw [hkc, wrap_ok (by omega) (by omega)]
      obtain ⟨kk, hkk'⟩ : ∃ kk, kk = k * k := ⟨_, rfl⟩
      rw [← hkk'] at w1 hw hkk
      have w2 : IntKind.i64.wrap ((k : Int) + (kk : Int)) = (w : Int) := by rw [wrap_ok (by omega) (by omega)]; omega
      simp (maxSteps := 1000000) (disch := omega) only [push_cast, ↓wc_seq, ↓wc_block, ↓wc_scope, ↓wc_condL, ↓wc_region, ↓wr_cons, ↓wr_consgL, ↓wr_nil, ↓wo_pickL, ↓wo_callf, ↓wc_exit, ↓wc_ret, ↓wc_skip, ↓wc_wl, wo_some, wo_none, wo_ite, opQ_eq, seqQ_normal, seqQ_exit, seqQ_ret, blockQ_normal, blockQ_exit, blockQ_ret, iterQ_normal, iterQ_exit, iterQ_ret, retQ_normal, retQ_ret, retQ_exit, pickC_true, pickC_false, pickO_true, pickO_false, gstep_tt, gstep_ff, gstep_tf, gstep_ft, gstep_skip, int_bne, int_beq, decide_not, Nat.reduceAdd, Nat.reduceMul, Nat.reduceSub, Nat.reducePow, Nat.reduceLT, Nat.reduceLeDiff, Nat.reduceEqDiff, Int.reduceToNat, Int.reduceAdd, Int.reduceSub, Int.reduceNeg, Int.reduceMul, Int.reduceLT, Int.reduceLE, Int.reduceEq, le_max, ↓wo_build, ↓wo_buildSlice, evParts, ↓reduceIte, planIds, hasExt, cntFs, idxFs, clnFs, ovlFs, List.contains_cons, List.contains_nil, List.any_cons, List.any_nil, Nat.reduceBEq, setC, List.length_set, decide_eq_true_eq, decide_eq_false_iff_not, true_implies, false_implies, forall_const, reduceCtorEq, eq_self, Int.natCast_nonneg, Int.toNat_natCast, Int.ofNat_lt, D.int.injEq, Option.some.injEq, Nat.zero_add, Nat.add_zero, bne_iff_ne, bne_eq_false_iff_eq, beq_iff_eq, beq_eq_false_iff_ne, gt_iff_lt, ne_eq, not_true_eq_false, not_false_eq_true, planIds, hasExt, cntFs, idxFs, clnFs, ovlFs, List.contains_cons, List.contains_nil, List.any_cons, List.any_nil, Nat.reduceBEq, Nat.reduceMul, Nat.reduceAdd, ↓reduceIte, hal, h1, h6, h8, h9, g1, g2, g4, gt_iff_lt, w1, w2]
  clear hal h1 h6 h8 h9 a
  rintro a T' ⟨rfl, hal, h8, h9, h10⟩
  rcases hcase with ⟨hb, hN, rfl⟩ | ⟨hb, hN, rfl⟩
  · have hN' : (N : Int) = 0 := by omega
    have hb' : (1024 : Int) < (w : Int) := by omega
    rcases hL with ⟨rfl, rfl⟩ | ⟨q, rfl⟩ | ⟨es, x, rfl, rfl⟩ <;>
    · simp (maxSteps := 1000000) (disch := omega) only [push_cast, ↓wc_seq, ↓wc_block, ↓wc_scope, ↓wc_condL, ↓wc_region, ↓wr_cons, ↓wr_consgL, ↓wr_nil, ↓wo_pickL, ↓wo_callf, ↓wc_exit, ↓wc_ret, ↓wc_skip, ↓wc_wl, wo_some, wo_none, wo_ite, opQ_eq, seqQ_normal, seqQ_exit, seqQ_ret, blockQ_normal, blockQ_exit, blockQ_ret, iterQ_normal, iterQ_exit, iterQ_ret, retQ_normal, retQ_ret, retQ_exit, pickC_true, pickC_false, pickO_true, pickO_false, gstep_tt, gstep_ff, gstep_tf, gstep_ft, gstep_skip, int_bne, int_beq, decide_not, Nat.reduceAdd, Nat.reduceMul, Nat.reduceSub, Nat.reducePow, Nat.reduceLT, Nat.reduceLeDiff, Nat.reduceEqDiff, Int.reduceToNat, Int.reduceAdd, Int.reduceSub, Int.reduceNeg, Int.reduceMul, Int.reduceLT, Int.reduceLE, Int.reduceEq, le_max, ↓wo_build, ↓wo_buildSlice, evParts, ↓reduceIte, planIds, hasExt, cntFs, idxFs, clnFs, ovlFs, List.contains_cons, List.contains_nil, List.any_cons, List.any_nil, Nat.reduceBEq, setC, List.length_set, decide_eq_true_eq, decide_eq_false_iff_not, true_implies, false_implies, forall_const, reduceCtorEq, eq_self, Int.natCast_nonneg, Int.toNat_natCast, Int.ofNat_lt, D.int.injEq, Option.some.injEq, Nat.zero_add, Nat.add_zero, bne_iff_ne, bne_eq_false_iff_eq, beq_iff_eq, beq_eq_false_iff_ne, gt_iff_lt, ne_eq, not_true_eq_false, not_false_eq_true, planIds, hasExt, cntFs, idxFs, clnFs, ovlFs, List.contains_cons, List.contains_nil, List.any_cons, List.any_nil, Nat.reduceBEq, Nat.reduceMul, Nat.reduceAdd, ↓reduceIte, hal, h8, h9, h10, hb', gt_iff_lt, hN', ck, Tryd.f6]
  · have hN' : (N : Int) = (w : Int) := by omega
    have hb' : ¬ (1024 : Int) < (w : Int) := by omega
    rcases hL with ⟨rfl, rfl⟩ | ⟨q, rfl⟩ | ⟨es, x, rfl, rfl⟩
    · have hw0 : (w : Int) = 0 := by omega
      simp (maxSteps := 1000000) (disch := omega) only [push_cast, ↓wc_seq, ↓wc_block, ↓wc_scope, ↓wc_condL, ↓wc_region, ↓wr_cons, ↓wr_consgL, ↓wr_nil, ↓wo_pickL, ↓wo_callf, ↓wc_exit, ↓wc_ret, ↓wc_skip, ↓wc_wl, wo_some, wo_none, wo_ite, opQ_eq, seqQ_normal, seqQ_exit, seqQ_ret, blockQ_normal, blockQ_exit, blockQ_ret, iterQ_normal, iterQ_exit, iterQ_ret, retQ_normal, retQ_ret, retQ_exit, pickC_true, pickC_false, pickO_true, pickO_false, gstep_tt, gstep_ff, gstep_tf, gstep_ft, gstep_skip, int_bne, int_beq, decide_not, Nat.reduceAdd, Nat.reduceMul, Nat.reduceSub, Nat.reducePow, Nat.reduceLT, Nat.reduceLeDiff, Nat.reduceEqDiff, Int.reduceToNat, Int.reduceAdd, Int.reduceSub, Int.reduceNeg, Int.reduceMul, Int.reduceLT, Int.reduceLE, Int.reduceEq, le_max, ↓wo_build, ↓wo_buildSlice, evParts, ↓reduceIte, planIds, hasExt, cntFs, idxFs, clnFs, ovlFs, List.contains_cons, List.contains_nil, List.any_cons, List.any_nil, Nat.reduceBEq, setC, List.length_set, decide_eq_true_eq, decide_eq_false_iff_not, true_implies, false_implies, forall_const, reduceCtorEq, eq_self, Int.natCast_nonneg, Int.toNat_natCast, Int.ofNat_lt, D.int.injEq, Option.some.injEq, Nat.zero_add, Nat.add_zero, bne_iff_ne, bne_eq_false_iff_eq, beq_iff_eq, beq_eq_false_iff_ne, gt_iff_lt, ne_eq, not_true_eq_false, not_false_eq_true, planIds, hasExt, cntFs, idxFs, clnFs, ovlFs, List.contains_cons, List.contains_nil, List.any_cons, List.any_nil, Nat.reduceBEq, Nat.reduceMul, Nat.reduceAdd, ↓reduceIte, hal, h8, h9, h10, hb', gt_iff_lt, hw0, ck, Tryd.f6]
    · simp (maxSteps := 1000000) (disch := omega) only [push_cast, ↓wc_seq, ↓wc_block, ↓wc_scope, ↓wc_condL, ↓wc_region, ↓wr_cons, ↓wr_consgL, ↓wr_nil, ↓wo_pickL, ↓wo_callf, ↓wc_exit, ↓wc_ret, ↓wc_skip, ↓wc_wl, wo_some, wo_none, wo_ite, opQ_eq, seqQ_normal, seqQ_exit, seqQ_ret, blockQ_normal, blockQ_exit, blockQ_ret, iterQ_normal, iterQ_exit, iterQ_ret, retQ_normal, retQ_ret, retQ_exit, pickC_true, pickC_false, pickO_true, pickO_false, gstep_tt, gstep_ff, gstep_tf, gstep_ft, gstep_skip, int_bne, int_beq, decide_not, Nat.reduceAdd, Nat.reduceMul, Nat.reduceSub, Nat.reducePow, Nat.reduceLT, Nat.reduceLeDiff, Nat.reduceEqDiff, Int.reduceToNat, Int.reduceAdd, Int.reduceSub, Int.reduceNeg, Int.reduceMul, Int.reduceLT, Int.reduceLE, Int.reduceEq, le_max, ↓wo_build, ↓wo_buildSlice, evParts, ↓reduceIte, planIds, hasExt, cntFs, idxFs, clnFs, ovlFs, List.contains_cons, List.contains_nil, List.any_cons, List.any_nil, Nat.reduceBEq, setC, List.length_set, decide_eq_true_eq, decide_eq_false_iff_not, true_implies, false_implies, forall_const, reduceCtorEq, eq_self, Int.natCast_nonneg, Int.toNat_natCast, Int.ofNat_lt, D.int.injEq, Option.some.injEq, Nat.zero_add, Nat.add_zero, bne_iff_ne, bne_eq_false_iff_eq, beq_iff_eq, beq_eq_false_iff_ne, gt_iff_lt, ne_eq, not_true_eq_false, not_false_eq_true, planIds, hasExt, cntFs, idxFs, clnFs, ovlFs, List.contains_cons, List.contains_nil, List.any_cons, List.any_nil, Nat.reduceBEq, Nat.reduceMul, Nat.reduceAdd, ↓reduceIte, hal, h8, h9, h10, hb', gt_iff_lt, hN', ck, Tryd.f6]
    · simp (maxSteps := 1000000) (disch := omega) only [push_cast, ↓wc_seq, ↓wc_block, ↓wc_scope, ↓wc_condL, ↓wc_region, ↓wr_cons, ↓wr_consgL, ↓wr_nil, ↓wo_pickL, ↓wo_callf, ↓wc_exit, ↓wc_ret, ↓wc_skip, ↓wc_wl, wo_some, wo_none, wo_ite, opQ_eq, seqQ_normal, seqQ_exit, seqQ_ret, blockQ_normal, blockQ_exit, blockQ_ret, iterQ_normal, iterQ_exit, iterQ_ret, retQ_normal, retQ_ret, retQ_exit, pickC_true, pickC_false, pickO_true, pickO_false, gstep_tt, gstep_ff, gstep_tf, gstep_ft, gstep_skip, int_bne, int_beq, decide_not, Nat.reduceAdd, Nat.reduceMul, Nat.reduceSub, Nat.reducePow, Nat.reduceLT, Nat.reduceLeDiff, Nat.reduceEqDiff, Int.reduceToNat, Int.reduceAdd, Int.reduceSub, Int.reduceNeg, Int.reduceMul, Int.reduceLT, Int.reduceLE, Int.reduceEq, le_max, ↓wo_build, ↓wo_buildSlice, evParts, ↓reduceIte, planIds, hasExt, cntFs, idxFs, clnFs, ovlFs, List.contains_cons, List.contains_nil, List.any_cons, List.any_nil, Nat.reduceBEq, setC, List.length_set, decide_eq_true_eq, decide_eq_false_iff_not, true_implies, false_implies, forall_const, reduceCtorEq, eq_self, Int.natCast_nonneg, Int.toNat_natCast, Int.ofNat_lt, D.int.injEq, Option.some.injEq, Nat.zero_add, Nat.add_zero, bne_iff_ne, bne_eq_false_iff_eq, beq_iff_eq, beq_eq_false_iff_ne, gt_iff_lt, ne_eq, not_true_eq_false, not_false_eq_true, planIds, hasExt, cntFs, idxFs, clnFs, ovlFs, List.contains_cons, List.contains_nil, List.any_cons, List.any_nil, Nat.reduceBEq, Nat.reduceMul, Nat.reduceAdd, ↓reduceIte, hal, h8, h9, h10, hb', gt_iff_lt, hN', ck, Tryd.f6]
end Go.Proofs.YtgomkmamgflbeaaDoor.Dm
