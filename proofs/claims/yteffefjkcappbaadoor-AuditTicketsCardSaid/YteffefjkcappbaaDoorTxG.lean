/-
  The machine at strings.Split by a space.
-/
import Derived.Test.YteffefjkcappbaaDoorTxS
namespace Go.Proofs.YteffefjkcappbaaDoor.Dm
open Go
set_option linter.unusedSimpArgs false

def wordD (w : ByteArray) : List D := [.str w]
theorem get_lastG {α : Type} {l : List α} {x : α} : (l ++ [x])[l.length]? = some x := by simp
set_option maxHeartbeats 2000000 in
set_option maxRecDepth 100000 in
theorem genSplit_d {n : Nat} {s : ByteArray} {S : List Ob} (hz : s.size ≤ 1000) (hn : s.size + 10 < n) :
    WO (dcall E (n + 1) 225 [.str s, .str (ByteArray.mk #[32]), .int .i64 0, .int .i64 (-1)] S) fun d T => ∃ (k : Nat) (ws : List ByteArray), d = .os k 0 ws.length false ∧ T[k]? = some (.row 1 (ws.map wordD)) ∧ ws.map (·.data.toList) = spl s.data.toList := by
  have cc := Count_c (n := n) (by omega) s
  have ci := fun s => Index_c (n := n) (by omega) s
  obtain ⟨cnt, hcnt⟩ : ∃ cnt, cnt = s.data.toList.count 32 := ⟨_, rfl⟩
  rw [← hcnt] at cc
  have hle : cnt ≤ s.size := by
    rw [hcnt]
    have := List.count_le_length (a := (32 : UInt8)) (l := s.data.toList)
    simpa using this
  have hmin : ¬ ((s.size : Int) + 1 < (cnt : Int) + 1) := by omega
  refine wo_dcall Tryd.func225 rfl (by decide) rfl 66 rfl (fun a hal ha => ?_)
  have h0 : a[0]? = some (.str s) := ha 0 (by simp)
  have h1 : a[1]? = some (.str (ByteArray.mk #[32])) := ha 1 (by simp)
  have h2 : a[2]? = some (.int .i64 0) := ha 2 (by simp)
  have h3 : a[3]? = some (.int .i64 (-1)) := ha 3 (by simp)
  clear ha
  have e1 : ((cnt : Int) + 1).toNat = cnt + 1 := by omega
  have e2 : (cnt : Int) + 1 - 1 = cnt := by omega
  have e3 : (0 : Int) ≤ (cnt : Int) + 1 := by omega
  simp (maxSteps := 1000000) (disch := omega) only [push_cast, ↓wc_seq, ↓wc_block, ↓wc_scope, ↓wc_condL, ↓wc_region, ↓wr_cons, ↓wr_consgL, ↓wr_nil, ↓wo_pickL, ↓wo_callf, ↓wc_exit, ↓wc_ret, ↓wc_skip, ↓wc_wl, wo_some, wo_none, wo_ite, opQ_eq, seqQ_normal, seqQ_exit, seqQ_ret, blockQ_normal, blockQ_exit, blockQ_ret, iterQ_normal, iterQ_exit, iterQ_ret, retQ_normal, retQ_ret, retQ_exit, pickC_true, pickC_false, pickO_true, pickO_false, gstep_tt, gstep_ff, gstep_tf, gstep_ft, gstep_skip, int_bne, int_beq, decide_not, Nat.reduceAdd, Nat.reduceMul, Nat.reduceSub, Nat.reducePow, Nat.reduceLT, Nat.reduceLeDiff, Nat.reduceEqDiff, Int.reduceToNat, Int.reduceAdd, Int.reduceSub, Int.reduceNeg, Int.reduceMul, Int.reduceLT, Int.reduceLE, Int.reduceEq, le_max, ↓wo_build, ↓wo_buildSlice, evParts, ↓reduceIte, planIds, hasExt, cntFs, idxFs, clnFs, ovlFs, List.contains_cons, List.contains_nil, List.any_cons, List.any_nil, Nat.reduceBEq, setC, List.length_set, decide_eq_true_eq, decide_eq_false_iff_not, true_implies, false_implies, forall_const, reduceCtorEq, eq_self, Int.natCast_nonneg, Int.toNat_natCast, Int.ofNat_lt, D.int.injEq, Option.some.injEq, Nat.zero_add, Nat.add_zero, bne_iff_ne, bne_eq_false_iff_eq, beq_iff_eq, beq_eq_false_iff_ne, gt_iff_lt, ne_eq, not_true_eq_false, not_false_eq_true, planIds, hasExt, cntFs, idxFs, clnFs, ovlFs, List.contains_cons, List.contains_nil, List.any_cons, List.any_nil, Nat.reduceBEq, Nat.reduceMul, Nat.reduceAdd, ↓reduceIte, hal, h0, h1, h2, h3, sp_ne, cc, hmin, e1, e2, e3, wrap_ok, if_pos, dMakeSlice]
  refine wl_loop (fun i a T => a.length = 66 ∧ a[1]? = some (.str (ByteArray.mk #[32])) ∧ a[2]? = some (.int .i64 0) ∧ a[3]? = some (.int .i64 cnt) ∧ a[9]? = some (.os S.length 0 (cnt + 1) false) ∧ a[10]? = some (.int .i64 i) ∧ ∃ (r : ByteArray) (rows : List (List D)) (ps : List ByteArray), a[0]? = some (.str r) ∧ r.size ≤ s.size ∧ T[S.length]? = some (.row 1 rows) ∧ rows.length = cnt + 1 ∧ ps.length = i ∧ rows.take i = ps.map wordD ∧ (∀ j, j < cnt + 1 → ∃ z, rows[j]? = some [z]) ∧ spl s.data.toList = ps.map (·.data.toList) ++ spl r.data.toList ∧ r.data.toList.count 32 + i = cnt) cnt ?_ (by omega) ?_
  · simp (maxSteps := 1000000) (disch := omega) only [push_cast, ↓wc_seq, ↓wc_block, ↓wc_scope, ↓wc_condL, ↓wc_region, ↓wr_cons, ↓wr_consgL, ↓wr_nil, ↓wo_pickL, ↓wo_callf, ↓wc_exit, ↓wc_ret, ↓wc_skip, ↓wc_wl, wo_some, wo_none, wo_ite, opQ_eq, seqQ_normal, seqQ_exit, seqQ_ret, blockQ_normal, blockQ_exit, blockQ_ret, iterQ_normal, iterQ_exit, iterQ_ret, retQ_normal, retQ_ret, retQ_exit, pickC_true, pickC_false, pickO_true, pickO_false, gstep_tt, gstep_ff, gstep_tf, gstep_ft, gstep_skip, int_bne, int_beq, decide_not, Nat.reduceAdd, Nat.reduceMul, Nat.reduceSub, Nat.reducePow, Nat.reduceLT, Nat.reduceLeDiff, Nat.reduceEqDiff, Int.reduceToNat, Int.reduceAdd, Int.reduceSub, Int.reduceNeg, Int.reduceMul, Int.reduceLT, Int.reduceLE, Int.reduceEq, le_max, ↓wo_build, ↓wo_buildSlice, evParts, ↓reduceIte, planIds, hasExt, cntFs, idxFs, clnFs, ovlFs, List.contains_cons, List.contains_nil, List.any_cons, List.any_nil, Nat.reduceBEq, setC, List.length_set, decide_eq_true_eq, decide_eq_false_iff_not, true_implies, false_implies, forall_const, reduceCtorEq, eq_self, Int.natCast_nonneg, Int.toNat_natCast, Int.ofNat_lt, D.int.injEq, Option.some.injEq, Nat.zero_add, Nat.add_zero, bne_iff_ne, bne_eq_false_iff_eq, beq_iff_eq, beq_eq_false_iff_ne, gt_iff_lt, ne_eq, not_true_eq_false, not_false_eq_true, planIds, hasExt, cntFs, idxFs, clnFs, ovlFs, List.contains_cons, List.contains_nil, List.any_cons, List.any_nil, Nat.reduceBEq, Nat.reduceMul, Nat.reduceAdd, ↓reduceIte, hal, h0, h1, h2, h3, e1, Int.natCast_zero]
    refine ⟨s, _, [], rfl, Nat.le_refl _, get_lastG, by simp, rfl, rfl, fun j hj => ⟨.str ⟨#[]⟩, ?_⟩, rfl, by omega⟩
    cases j with
    | zero => rfl
    | succ j => rw [List.getElem?_cons_succ, List.getElem?_replicate, if_pos (by omega)]
  · rintro i a T hi ⟨hal, h1, h2, h3, h9, h10, r, rows, ps, h0, hrs, hT, hrl, hpl, hpm, hrow, hsp, hct⟩
    obtain ⟨z, hz'⟩ := hrow i (by omega)
    have hTl : S.length < T.length := (List.getElem?_eq_some_iff.1 hT).1
    have htk : ∀ x : List D, (rows.set i x).take (i + 1) = rows.take i ++ [x] := fun x => by
      rw [List.take_add_one, List.getElem?_set_self (by omega), List.take_set_of_le (Nat.le_refl _)]; rfl
    have hii : i < cnt + 1 := by omega
    have hii' : (i : Int) < (cnt : Int) + 1 := by omega
    rcases Nat.lt_or_eq_of_le hi with hlt | rfl
    · rcases idx_spec r.data.toList with ⟨hc0, -⟩ | ⟨m, hm, hml, hms, hmc⟩
      · omega
      · have hmr : m < r.size := by simpa using hml
        have cr := fun st S => ci r st S
        rw [hm] at cr
        have q1 : ¬ ((m : Int) < 0) := by omega
        have q2 : (0 : Int) ≤ m := by omega
        have q3 : m ≤ r.size := by omega
        have q4 : ((m : Int) + 1).toNat = m + 1 := by omega
        have q5 : (0 : Int) ≤ (m : Int) + 1 := by omega
        have q6 : m + 1 ≤ r.size := by omega
        simp (maxSteps := 1000000) (disch := omega) only [push_cast, ↓wc_seq, ↓wc_block, ↓wc_scope, ↓wc_condL, ↓wc_region, ↓wr_cons, ↓wr_consgL, ↓wr_nil, ↓wo_pickL, ↓wo_callf, ↓wc_exit, ↓wc_ret, ↓wc_skip, ↓wc_wl, wo_some, wo_none, wo_ite, opQ_eq, seqQ_normal, seqQ_exit, seqQ_ret, blockQ_normal, blockQ_exit, blockQ_ret, iterQ_normal, iterQ_exit, iterQ_ret, retQ_normal, retQ_ret, retQ_exit, pickC_true, pickC_false, pickO_true, pickO_false, gstep_tt, gstep_ff, gstep_tf, gstep_ft, gstep_skip, int_bne, int_beq, decide_not, Nat.reduceAdd, Nat.reduceMul, Nat.reduceSub, Nat.reducePow, Nat.reduceLT, Nat.reduceLeDiff, Nat.reduceEqDiff, Int.reduceToNat, Int.reduceAdd, Int.reduceSub, Int.reduceNeg, Int.reduceMul, Int.reduceLT, Int.reduceLE, Int.reduceEq, le_max, ↓wo_build, ↓wo_buildSlice, evParts, ↓reduceIte, planIds, hasExt, cntFs, idxFs, clnFs, ovlFs, List.contains_cons, List.contains_nil, List.any_cons, List.any_nil, Nat.reduceBEq, setC, List.length_set, decide_eq_true_eq, decide_eq_false_iff_not, true_implies, false_implies, forall_const, reduceCtorEq, eq_self, Int.natCast_nonneg, Int.toNat_natCast, Int.ofNat_lt, D.int.injEq, Option.some.injEq, Nat.zero_add, Nat.add_zero, bne_iff_ne, bne_eq_false_iff_eq, beq_iff_eq, beq_eq_false_iff_ne, gt_iff_lt, ne_eq, not_true_eq_false, not_false_eq_true, planIds, hasExt, cntFs, idxFs, clnFs, ovlFs, List.contains_cons, List.contains_nil, List.any_cons, List.any_nil, Nat.reduceBEq, Nat.reduceMul, Nat.reduceAdd, ↓reduceIte, hal, h0, h1, h2, h3, h9, h10, hlt, hii, hii', hTl, cr, q1, q2, q3, q4, q5, q6, hT, hz', sp_size, wrap_ok, if_pos, Int.add_zero, Nat.le_refl, Int.natCast_add, Int.natCast_one]
        refine ⟨r.extract (m + 1) r.size, _, ps ++ [r.extract 0 m], rfl, ?_, rfl, by simp [hrl], by simp [hpl], ?_, ?_, ?_, ?_⟩
        · have : (r.extract (m + 1) r.size).size = r.size - (m + 1) := by simp [ByteArray.size_extract]
          omega
        · rw [htk, hpm, List.map_append]; rfl
        · intro j hj
          by_cases e : i = j
          · subst e; exact ⟨_, List.getElem?_set_self (by omega)⟩
          · rw [List.getElem?_set_ne e]; exact hrow j hj
        · rw [hsp, hms, List.map_append, List.append_assoc, ext_drop, List.map_cons, List.map_nil, ext_take]; rfl
        · rw [ext_drop]; omega
    · simp (maxSteps := 1000000) (disch := omega) only [push_cast, ↓wc_seq, ↓wc_block, ↓wc_scope, ↓wc_condL, ↓wc_region, ↓wr_cons, ↓wr_consgL, ↓wr_nil, ↓wo_pickL, ↓wo_callf, ↓wc_exit, ↓wc_ret, ↓wc_skip, ↓wc_wl, wo_some, wo_none, wo_ite, opQ_eq, seqQ_normal, seqQ_exit, seqQ_ret, blockQ_normal, blockQ_exit, blockQ_ret, iterQ_normal, iterQ_exit, iterQ_ret, retQ_normal, retQ_ret, retQ_exit, pickC_true, pickC_false, pickO_true, pickO_false, gstep_tt, gstep_ff, gstep_tf, gstep_ft, gstep_skip, int_bne, int_beq, decide_not, Nat.reduceAdd, Nat.reduceMul, Nat.reduceSub, Nat.reducePow, Nat.reduceLT, Nat.reduceLeDiff, Nat.reduceEqDiff, Int.reduceToNat, Int.reduceAdd, Int.reduceSub, Int.reduceNeg, Int.reduceMul, Int.reduceLT, Int.reduceLE, Int.reduceEq, le_max, ↓wo_build, ↓wo_buildSlice, evParts, ↓reduceIte, planIds, hasExt, cntFs, idxFs, clnFs, ovlFs, List.contains_cons, List.contains_nil, List.any_cons, List.any_nil, Nat.reduceBEq, setC, List.length_set, decide_eq_true_eq, decide_eq_false_iff_not, true_implies, false_implies, forall_const, reduceCtorEq, eq_self, Int.natCast_nonneg, Int.toNat_natCast, Int.ofNat_lt, D.int.injEq, Option.some.injEq, Nat.zero_add, Nat.add_zero, bne_iff_ne, bne_eq_false_iff_eq, beq_iff_eq, beq_eq_false_iff_ne, gt_iff_lt, ne_eq, not_true_eq_false, not_false_eq_true, planIds, hasExt, cntFs, idxFs, clnFs, ovlFs, List.contains_cons, List.contains_nil, List.any_cons, List.any_nil, Nat.reduceBEq, Nat.reduceMul, Nat.reduceAdd, ↓reduceIte, hal, h0, h1, h2, h3, h9, h10, hii, hii', hTl, hT, hz', wrap_ok, if_pos, Nat.lt_irrefl, Tryd.f225]
      refine ⟨S.length, ps ++ [r], by rw [List.length_append, hpl]; rfl, ?_, ?_⟩
      · have h1 := htk [.str r]
        have h2 : (rows.set ps.length [.str r]).length = ps.length + 1 := by simp; omega
        rw [← hpl] at h1 hpm
        rw [← h2, List.take_length] at h1
        rw [hpl] at h1 hpm
        rw [h1, hpm, List.map_append, if_pos rfl]; rfl
      · rw [hsp, List.map_append, spl_no _ (by omega)]; rfl
set_option maxHeartbeats 400000 in
set_option maxRecDepth 100000 in
theorem Split_c {n : Nat} {s : ByteArray} (hz : s.size ≤ 1000) (hn : s.size + 20 < n) : ∃ ws : List ByteArray, ws.map (·.data.toList) = spl s.data.toList ∧ ∀ (st : Bool) (S : List Ob), callD E (dcall E n) st S 191 [.str s, .str (ByteArray.mk #[32])] = some (.sl 1 (ws.map wordD) false, S) := by
  obtain ⟨m, rfl⟩ : ∃ m, n = m + 2 := ⟨n - 2, by omega⟩
  obtain ⟨d, T, ho, k, ws, rfl, hT, hw⟩ := genSplit_d (n := m) (S := []) hz (by omega)
  refine ⟨ws, hw, fun st S => ?_⟩
  have hp : pureLL (ws.map wordD) = true := by
    clear ho hT hw
    induction ws with
    | nil => rfl
    | cons w ws ih => rw [List.map_cons, pureLL_cons, ih]; rfl
  have hf := freeze_os (n := 38) (x := false) hT hp
  rw [List.length_map] at hf
  have cg : ∀ st S, callD E (dcall E (m + 1)) st S 225 [.str s, .str (ByteArray.mk #[32]), .int .i64 0, .int .i64 (-1)] = some (.sl 1 (ws.map wordD) false, S) := fun st S => callD_pure rfl rfl ho hf
  have : WO (dcall E (m + 2) 191 [.str s, .str (ByteArray.mk #[32])] []) fun d T => d = .sl 1 (ws.map wordD) false ∧ T = [] := by
    refine wo_dcall Tryd.func191 rfl (by decide) rfl 8 rfl (fun a hal ha => ?_)
    have h0 : a[0]? = some (.str s) := ha 0 (by simp)
    have h1 : a[1]? = some (.str (ByteArray.mk #[32])) := ha 1 (by simp)
    clear ha
    simp (maxSteps := 1000000) (disch := omega) only [push_cast, ↓wc_seq, ↓wc_block, ↓wc_scope, ↓wc_condL, ↓wc_region, ↓wr_cons, ↓wr_consgL, ↓wr_nil, ↓wo_pickL, ↓wo_callf, ↓wc_exit, ↓wc_ret, ↓wc_skip, ↓wc_wl, wo_some, wo_none, wo_ite, opQ_eq, seqQ_normal, seqQ_exit, seqQ_ret, blockQ_normal, blockQ_exit, blockQ_ret, iterQ_normal, iterQ_exit, iterQ_ret, retQ_normal, retQ_ret, retQ_exit, pickC_true, pickC_false, pickO_true, pickO_false, gstep_tt, gstep_ff, gstep_tf, gstep_ft, gstep_skip, int_bne, int_beq, decide_not, Nat.reduceAdd, Nat.reduceMul, Nat.reduceSub, Nat.reducePow, Nat.reduceLT, Nat.reduceLeDiff, Nat.reduceEqDiff, Int.reduceToNat, Int.reduceAdd, Int.reduceSub, Int.reduceNeg, Int.reduceMul, Int.reduceLT, Int.reduceLE, Int.reduceEq, le_max, ↓wo_build, ↓wo_buildSlice, evParts, ↓reduceIte, planIds, hasExt, cntFs, idxFs, clnFs, ovlFs, List.contains_cons, List.contains_nil, List.any_cons, List.any_nil, Nat.reduceBEq, setC, List.length_set, decide_eq_true_eq, decide_eq_false_iff_not, true_implies, false_implies, forall_const, reduceCtorEq, eq_self, Int.natCast_nonneg, Int.toNat_natCast, Int.ofNat_lt, D.int.injEq, Option.some.injEq, Nat.zero_add, Nat.add_zero, bne_iff_ne, bne_eq_false_iff_eq, beq_iff_eq, beq_eq_false_iff_ne, gt_iff_lt, ne_eq, not_true_eq_false, not_false_eq_true, planIds, hasExt, cntFs, idxFs, clnFs, ovlFs, List.contains_cons, List.contains_nil, List.any_cons, List.any_nil, Nat.reduceBEq, Nat.reduceMul, Nat.reduceAdd, ↓reduceIte, hal, h0, h1, cg, Tryd.f191]
  exact callD_pure rfl rfl (eq_of_wo this) (freeze_pure (by simpa [D.pure] using hp))
end Go.Proofs.YteffefjkcappbaaDoor.Dm
