/-
  The machine at names: the program's and the reference's say the same.
-/
import Derived.Test.YteffefjkcappbaaDoorTxG
namespace Go.Proofs.YteffefjkcappbaaDoor.Dm
open Go
set_option linter.unusedSimpArgs false

/-- A word of a name. -/
def okW (w : List UInt8) : Bool := !w.isEmpty && w.all capB
/-- Do the bytes make up words of capitals with single spaces between? p: what stood ahead was a space, or nothing. -/
def scan : Bool → List UInt8 → Bool
  | p, [] => !p
  | p, b :: l => if b = 32 then !p && scan true l else capB b && scan false l
def nameS (s : ByteArray) : Bool := decide (s.size ≤ 30) && scan true s.data.toList
theorem scan_spl : ∀ l : List UInt8, (∀ w ws, spl l = w :: ws → scan false l = (w.all capB && ws.all okW)) ∧ scan true l = (spl l).all okW
  | [] => ⟨fun w ws h => by simp [spl] at h; obtain ⟨rfl, rfl⟩ := h; rfl, rfl⟩
  | b :: l => by
    obtain ⟨i1, i2⟩ := scan_spl l
    by_cases hb : b = 32
    · subst hb
      have hs : spl (32 :: l) = [] :: spl l := by simp [spl]
      refine ⟨fun w ws h => ?_, ?_⟩
      · rw [hs] at h
        obtain ⟨rfl, rfl⟩ := List.cons.inj h
        show (if (32 : UInt8) = 32 then !false && scan true l else capB 32 && scan false l) = _
        rw [if_pos rfl, i2]
        rfl
      · rw [hs]
        show (if (32 : UInt8) = 32 then !true && scan true l else capB 32 && scan false l) = _
        rw [if_pos rfl]
        rfl
    · obtain ⟨w0, ws0, h0⟩ : ∃ w ws, spl l = w :: ws := by
        cases h : spl l with
        | nil => exact absurd h (spl_ne l)
        | cons w ws => exact ⟨w, ws, rfl⟩
      have hs : spl (b :: l) = (b :: w0) :: ws0 := by
        show (if b = 32 then [] :: spl l else match spl l with
          | [] => [[b]]
          | w :: ws => (b :: w) :: ws) = _
        rw [if_neg hb, h0]
      have e : ∀ p, scan p (b :: l) = (capB b && (w0.all capB && ws0.all okW)) := fun p => by
        show (if b = 32 then !p && scan true l else capB b && scan false l) = _
        rw [if_neg hb, i1 w0 ws0 h0]
      refine ⟨fun w ws h => ?_, ?_⟩
      · rw [hs] at h
        obtain ⟨rfl, rfl⟩ := List.cons.inj h
        rw [e, List.all_cons, Bool.and_assoc]
      · rw [hs, e, List.all_cons]
        unfold okW
        simp [Bool.and_assoc]
theorem evr_all {p : UInt8 → Bool} {s : ByteArray} : ∀ i : Nat, i ≤ s.size → evr p s i = (s.data.toList.take i).all p
  | 0, _ => rfl
  | i + 1, h => by
    have hi : i < s.data.toList.length := by rw [Array.length_toList]; exact h
    rw [evr, evr_all i (by omega), List.take_add_one, List.all_append]
    have hb : s[i]? = some s[i] := by simp
    rw [hb, List.getElem?_eq_getElem hi]
    simp
    rfl
theorem evr_full {p : UInt8 → Bool} {s : ByteArray} : evr p s s.size = s.data.toList.all p := by
  rw [evr_all _ (Nat.le_refl _), List.take_of_length_le (by simp)]
theorem words_ok : ∀ ws : List ByteArray, (ws.map (·.data.toList)).all okW = ws.all fun w => !(w.toList == (ByteArray.mk #[]).toList) && evr capB w w.size
  | [] => rfl
  | w :: ws => by
    rw [List.map_cons, List.all_cons, List.all_cons, words_ok ws, evr_full]
    congr 1
    unfold okW
    congr 1
    rw [ByteArray.toList_eq, ByteArray.toList_eq]
    cases w.data.toList <;> rfl
set_option maxHeartbeats 800000 in
set_option maxRecDepth 100000 in
theorem Name_d {n : Nat} {s : ByteArray} {S : List Ob} (hz : s.size ≤ 1000) (hn : s.size + 40 < n) : WO (dcall E (n + 1) 136 [.str s] S) fun d T => d = .bool (nameS s) ∧ T = S := by
  obtain ⟨m, rfl⟩ : ∃ m, n = m + 1 := ⟨n - 1, by omega⟩
  refine wo_dcall Tryd.func136 rfl (by decide) rfl 23 rfl (fun a hal ha => ?_)
  have h0 : a[0]? = some (.str s) := ha 0 (by simp)
  clear ha
  unfold nameS
  by_cases c1 : (30 : Int) < s.size
  · have c1' : ¬ s.size ≤ 30 := by omega
    simp (maxSteps := 1000000) (disch := omega) only [push_cast, ↓wc_seq, ↓wc_block, ↓wc_scope, ↓wc_condL, ↓wc_region, ↓wr_cons, ↓wr_consgL, ↓wr_nil, ↓wo_pickL, ↓wo_callf, ↓wc_exit, ↓wc_ret, ↓wc_skip, ↓wc_wl, wo_some, wo_none, wo_ite, opQ_eq, seqQ_normal, seqQ_exit, seqQ_ret, blockQ_normal, blockQ_exit, blockQ_ret, iterQ_normal, iterQ_exit, iterQ_ret, retQ_normal, retQ_ret, retQ_exit, pickC_true, pickC_false, pickO_true, pickO_false, gstep_tt, gstep_ff, gstep_tf, gstep_ft, gstep_skip, int_bne, int_beq, decide_not, Nat.reduceAdd, Nat.reduceMul, Nat.reduceSub, Nat.reducePow, Nat.reduceLT, Nat.reduceLeDiff, Nat.reduceEqDiff, Int.reduceToNat, Int.reduceAdd, Int.reduceSub, Int.reduceNeg, Int.reduceMul, Int.reduceLT, Int.reduceLE, Int.reduceEq, le_max, ↓wo_build, ↓wo_buildSlice, evParts, ↓reduceIte, planIds, hasExt, cntFs, idxFs, clnFs, ovlFs, List.contains_cons, List.contains_nil, List.any_cons, List.any_nil, Nat.reduceBEq, setC, List.length_set, decide_eq_true_eq, decide_eq_false_iff_not, true_implies, false_implies, forall_const, reduceCtorEq, eq_self, Int.natCast_nonneg, Int.toNat_natCast, Int.ofNat_lt, D.int.injEq, Option.some.injEq, Nat.zero_add, Nat.add_zero, bne_iff_ne, bne_eq_false_iff_eq, beq_iff_eq, beq_eq_false_iff_ne, gt_iff_lt, ne_eq, not_true_eq_false, not_false_eq_true, planIds, hasExt, cntFs, idxFs, clnFs, ovlFs, List.contains_cons, List.contains_nil, List.any_cons, List.any_nil, Nat.reduceBEq, Nat.reduceMul, Nat.reduceAdd, ↓reduceIte, hal, h0, c1, c1', decide_false, Bool.false_and, Tryd.f136]
  · have c1' : s.size ≤ 30 := by omega
    obtain ⟨ws, hws, cs⟩ := Split_c (n := m + 1) (s := s) hz (by omega)
    rw [(scan_spl s.data.toList).2, ← hws, words_ok]
    have hlen : ws.length ≤ s.size + 1 := by
      have h1 : ws.length = (spl s.data.toList).length := by rw [← hws, List.length_map]
      have h2 : ∀ l : List UInt8, (spl l).length ≤ l.length + 1 := fun l => by
        induction l with
        | nil => simp [spl]
        | cons b l ih =>
          unfold spl
          split
          · simp; omega
          · split
            · simp
            · rename_i w ws' e; rw [e] at ih; simp at ih ⊢; omega
      have := h2 s.data.toList
      simp at this
      have h3 : s.data.size = s.size := rfl
      omega
    have hwz : ∀ w ∈ ws, w.size ≤ s.size := by
      have h2 : ∀ l : List UInt8, ∀ w ∈ spl l, w.length ≤ l.length := fun l => by
        induction l with
        | nil => simp [spl]
        | cons b l ih =>
          intro w hw
          unfold spl at hw
          split at hw
          · rcases List.mem_cons.1 hw with rfl | hw
            · simp
            · have := ih w hw; simp; omega
          · split at hw
            · simp at hw; subst hw; simp
            · rename_i w' ws' e
              rcases List.mem_cons.1 hw with rfl | hw
              · have := ih w' (by rw [e]; simp); simp; omega
              · have := ih w (by rw [e]; simp [hw]); simp; omega
      intro w hw
      have := h2 s.data.toList w.data.toList (by rw [← hws]; exact List.mem_map.2 ⟨w, hw, rfl⟩)
      simpa using this
    simp (maxSteps := 1000000) (disch := omega) only [push_cast, ↓wc_seq, ↓wc_block, ↓wc_scope, ↓wc_condL, ↓wc_region, ↓wr_cons, ↓wr_consgL, ↓wr_nil, ↓wo_pickL, ↓wo_callf, ↓wc_exit, ↓wc_ret, ↓wc_skip, ↓wc_wl, wo_some, wo_none, wo_ite, opQ_eq, seqQ_normal, seqQ_exit, seqQ_ret, blockQ_normal, blockQ_exit, blockQ_ret, iterQ_normal, iterQ_exit, iterQ_ret, retQ_normal, retQ_ret, retQ_exit, pickC_true, pickC_false, pickO_true, pickO_false, gstep_tt, gstep_ff, gstep_tf, gstep_ft, gstep_skip, int_bne, int_beq, decide_not, Nat.reduceAdd, Nat.reduceMul, Nat.reduceSub, Nat.reducePow, Nat.reduceLT, Nat.reduceLeDiff, Nat.reduceEqDiff, Int.reduceToNat, Int.reduceAdd, Int.reduceSub, Int.reduceNeg, Int.reduceMul, Int.reduceLT, Int.reduceLE, Int.reduceEq, le_max, ↓wo_build, ↓wo_buildSlice, evParts, ↓reduceIte, planIds, hasExt, cntFs, idxFs, clnFs, ovlFs, List.contains_cons, List.contains_nil, List.any_cons, List.any_nil, Nat.reduceBEq, setC, List.length_set, decide_eq_true_eq, decide_eq_false_iff_not, true_implies, false_implies, forall_const, reduceCtorEq, eq_self, Int.natCast_nonneg, Int.toNat_natCast, Int.ofNat_lt, D.int.injEq, Option.some.injEq, Nat.zero_add, Nat.add_zero, bne_iff_ne, bne_eq_false_iff_eq, beq_iff_eq, beq_eq_false_iff_ne, gt_iff_lt, ne_eq, not_true_eq_false, not_false_eq_true, planIds, hasExt, cntFs, idxFs, clnFs, ovlFs, List.contains_cons, List.contains_nil, List.any_cons, List.any_nil, Nat.reduceBEq, Nat.reduceMul, Nat.reduceAdd, ↓reduceIte, hal, h0, c1, c1', cs, decide_true, Bool.true_and, List.length_map]
    refine wl_loop (fun i a T => T = S ∧ a.length = 23 ∧ a[9]? = some (.sl 1 (ws.map wordD) false) ∧ a[10]? = some (.int .i64 ws.length) ∧ a[11]? = some (.int .i64 i) ∧ (ws.all fun w => !(w.toList == (ByteArray.mk #[]).toList) && evr capB w w.size) = ((ws.drop i).all fun w => !(w.toList == (ByteArray.mk #[]).toList) && evr capB w w.size)) ws.length ?_ (by omega) ?_
    · simp (maxSteps := 1000000) (disch := omega) only [push_cast, ↓wc_seq, ↓wc_block, ↓wc_scope, ↓wc_condL, ↓wc_region, ↓wr_cons, ↓wr_consgL, ↓wr_nil, ↓wo_pickL, ↓wo_callf, ↓wc_exit, ↓wc_ret, ↓wc_skip, ↓wc_wl, wo_some, wo_none, wo_ite, opQ_eq, seqQ_normal, seqQ_exit, seqQ_ret, blockQ_normal, blockQ_exit, blockQ_ret, iterQ_normal, iterQ_exit, iterQ_ret, retQ_normal, retQ_ret, retQ_exit, pickC_true, pickC_false, pickO_true, pickO_false, gstep_tt, gstep_ff, gstep_tf, gstep_ft, gstep_skip, int_bne, int_beq, decide_not, Nat.reduceAdd, Nat.reduceMul, Nat.reduceSub, Nat.reducePow, Nat.reduceLT, Nat.reduceLeDiff, Nat.reduceEqDiff, Int.reduceToNat, Int.reduceAdd, Int.reduceSub, Int.reduceNeg, Int.reduceMul, Int.reduceLT, Int.reduceLE, Int.reduceEq, le_max, ↓wo_build, ↓wo_buildSlice, evParts, ↓reduceIte, planIds, hasExt, cntFs, idxFs, clnFs, ovlFs, List.contains_cons, List.contains_nil, List.any_cons, List.any_nil, Nat.reduceBEq, setC, List.length_set, decide_eq_true_eq, decide_eq_false_iff_not, true_implies, false_implies, forall_const, reduceCtorEq, eq_self, Int.natCast_nonneg, Int.toNat_natCast, Int.ofNat_lt, D.int.injEq, Option.some.injEq, Nat.zero_add, Nat.add_zero, bne_iff_ne, bne_eq_false_iff_eq, beq_iff_eq, beq_eq_false_iff_ne, gt_iff_lt, ne_eq, not_true_eq_false, not_false_eq_true, planIds, hasExt, cntFs, idxFs, clnFs, ovlFs, List.contains_cons, List.contains_nil, List.any_cons, List.any_nil, Nat.reduceBEq, Nat.reduceMul, Nat.reduceAdd, ↓reduceIte, hal, h0, List.length_map, Int.natCast_zero]
    · rintro i a T hi ⟨rfl, hal, h9, h10, h11, hv⟩
      rcases Nat.lt_or_eq_of_le hi with hlt | rfl
      · obtain ⟨w, hw⟩ : ∃ w, ws[i]? = some w := ⟨ws[i], by simp [hlt]⟩
        have hwl := hwz w (List.mem_of_getElem? hw)
        have ce := every_c (capital_c (n := m) (by omega)) w (by omega) (by omega)
        have hd : ws.drop i = w :: ws.drop (i + 1) := by
          obtain ⟨hl, hx⟩ := List.getElem?_eq_some_iff.1 hw
          rw [← hx]
          exact List.drop_eq_getElem_cons hl
        rw [hd, List.all_cons] at hv
        cases c2 : (w.toList == (ByteArray.mk #[]).toList)
        · cases c3 : evr capB w w.size
          · rw [c2, c3] at hv
            simp (maxSteps := 1000000) (disch := omega) only [push_cast, ↓wc_seq, ↓wc_block, ↓wc_scope, ↓wc_condL, ↓wc_region, ↓wr_cons, ↓wr_consgL, ↓wr_nil, ↓wo_pickL, ↓wo_callf, ↓wc_exit, ↓wc_ret, ↓wc_skip, ↓wc_wl, wo_some, wo_none, wo_ite, opQ_eq, seqQ_normal, seqQ_exit, seqQ_ret, blockQ_normal, blockQ_exit, blockQ_ret, iterQ_normal, iterQ_exit, iterQ_ret, retQ_normal, retQ_ret, retQ_exit, pickC_true, pickC_false, pickO_true, pickO_false, gstep_tt, gstep_ff, gstep_tf, gstep_ft, gstep_skip, int_bne, int_beq, decide_not, Nat.reduceAdd, Nat.reduceMul, Nat.reduceSub, Nat.reducePow, Nat.reduceLT, Nat.reduceLeDiff, Nat.reduceEqDiff, Int.reduceToNat, Int.reduceAdd, Int.reduceSub, Int.reduceNeg, Int.reduceMul, Int.reduceLT, Int.reduceLE, Int.reduceEq, le_max, ↓wo_build, ↓wo_buildSlice, evParts, ↓reduceIte, planIds, hasExt, cntFs, idxFs, clnFs, ovlFs, List.contains_cons, List.contains_nil, List.any_cons, List.any_nil, Nat.reduceBEq, setC, List.length_set, decide_eq_true_eq, decide_eq_false_iff_not, true_implies, false_implies, forall_const, reduceCtorEq, eq_self, Int.natCast_nonneg, Int.toNat_natCast, Int.ofNat_lt, D.int.injEq, Option.some.injEq, Nat.zero_add, Nat.add_zero, bne_iff_ne, bne_eq_false_iff_eq, beq_iff_eq, beq_eq_false_iff_ne, gt_iff_lt, ne_eq, not_true_eq_false, not_false_eq_true, planIds, hasExt, cntFs, idxFs, clnFs, ovlFs, List.contains_cons, List.contains_nil, List.any_cons, List.any_nil, Nat.reduceBEq, Nat.reduceMul, Nat.reduceAdd, ↓reduceIte, hal, h9, h10, h11, hlt, hw, wordD, c2, c3, ce, dUn, wrap_ok, List.getElem?_map, Tryd.f136]
            rw [hv]; rfl
          · rw [c2, c3] at hv
            simp (maxSteps := 1000000) (disch := omega) only [push_cast, ↓wc_seq, ↓wc_block, ↓wc_scope, ↓wc_condL, ↓wc_region, ↓wr_cons, ↓wr_consgL, ↓wr_nil, ↓wo_pickL, ↓wo_callf, ↓wc_exit, ↓wc_ret, ↓wc_skip, ↓wc_wl, wo_some, wo_none, wo_ite, opQ_eq, seqQ_normal, seqQ_exit, seqQ_ret, blockQ_normal, blockQ_exit, blockQ_ret, iterQ_normal, iterQ_exit, iterQ_ret, retQ_normal, retQ_ret, retQ_exit, pickC_true, pickC_false, pickO_true, pickO_false, gstep_tt, gstep_ff, gstep_tf, gstep_ft, gstep_skip, int_bne, int_beq, decide_not, Nat.reduceAdd, Nat.reduceMul, Nat.reduceSub, Nat.reducePow, Nat.reduceLT, Nat.reduceLeDiff, Nat.reduceEqDiff, Int.reduceToNat, Int.reduceAdd, Int.reduceSub, Int.reduceNeg, Int.reduceMul, Int.reduceLT, Int.reduceLE, Int.reduceEq, le_max, ↓wo_build, ↓wo_buildSlice, evParts, ↓reduceIte, planIds, hasExt, cntFs, idxFs, clnFs, ovlFs, List.contains_cons, List.contains_nil, List.any_cons, List.any_nil, Nat.reduceBEq, setC, List.length_set, decide_eq_true_eq, decide_eq_false_iff_not, true_implies, false_implies, forall_const, reduceCtorEq, eq_self, Int.natCast_nonneg, Int.toNat_natCast, Int.ofNat_lt, D.int.injEq, Option.some.injEq, Nat.zero_add, Nat.add_zero, bne_iff_ne, bne_eq_false_iff_eq, beq_iff_eq, beq_eq_false_iff_ne, gt_iff_lt, ne_eq, not_true_eq_false, not_false_eq_true, planIds, hasExt, cntFs, idxFs, clnFs, ovlFs, List.contains_cons, List.contains_nil, List.any_cons, List.any_nil, Nat.reduceBEq, Nat.reduceMul, Nat.reduceAdd, ↓reduceIte, hal, h9, h10, h11, hlt, hw, wordD, c2, c3, ce, dUn, wrap_ok, List.getElem?_map, Int.natCast_add, Int.natCast_one]
            rw [hv]; rfl
        · rw [c2] at hv
          simp (maxSteps := 1000000) (disch := omega) only [push_cast, ↓wc_seq, ↓wc_block, ↓wc_scope, ↓wc_condL, ↓wc_region, ↓wr_cons, ↓wr_consgL, ↓wr_nil, ↓wo_pickL, ↓wo_callf, ↓wc_exit, ↓wc_ret, ↓wc_skip, ↓wc_wl, wo_some, wo_none, wo_ite, opQ_eq, seqQ_normal, seqQ_exit, seqQ_ret, blockQ_normal, blockQ_exit, blockQ_ret, iterQ_normal, iterQ_exit, iterQ_ret, retQ_normal, retQ_ret, retQ_exit, pickC_true, pickC_false, pickO_true, pickO_false, gstep_tt, gstep_ff, gstep_tf, gstep_ft, gstep_skip, int_bne, int_beq, decide_not, Nat.reduceAdd, Nat.reduceMul, Nat.reduceSub, Nat.reducePow, Nat.reduceLT, Nat.reduceLeDiff, Nat.reduceEqDiff, Int.reduceToNat, Int.reduceAdd, Int.reduceSub, Int.reduceNeg, Int.reduceMul, Int.reduceLT, Int.reduceLE, Int.reduceEq, le_max, ↓wo_build, ↓wo_buildSlice, evParts, ↓reduceIte, planIds, hasExt, cntFs, idxFs, clnFs, ovlFs, List.contains_cons, List.contains_nil, List.any_cons, List.any_nil, Nat.reduceBEq, setC, List.length_set, decide_eq_true_eq, decide_eq_false_iff_not, true_implies, false_implies, forall_const, reduceCtorEq, eq_self, Int.natCast_nonneg, Int.toNat_natCast, Int.ofNat_lt, D.int.injEq, Option.some.injEq, Nat.zero_add, Nat.add_zero, bne_iff_ne, bne_eq_false_iff_eq, beq_iff_eq, beq_eq_false_iff_ne, gt_iff_lt, ne_eq, not_true_eq_false, not_false_eq_true, planIds, hasExt, cntFs, idxFs, clnFs, ovlFs, List.contains_cons, List.contains_nil, List.any_cons, List.any_nil, Nat.reduceBEq, Nat.reduceMul, Nat.reduceAdd, ↓reduceIte, hal, h9, h10, h11, hlt, hw, wordD, c2, dUn, wrap_ok, List.getElem?_map, Tryd.f136]
          rw [hv]; rfl
      · rw [List.drop_length] at hv
        simp (maxSteps := 1000000) (disch := omega) only [push_cast, ↓wc_seq, ↓wc_block, ↓wc_scope, ↓wc_condL, ↓wc_region, ↓wr_cons, ↓wr_consgL, ↓wr_nil, ↓wo_pickL, ↓wo_callf, ↓wc_exit, ↓wc_ret, ↓wc_skip, ↓wc_wl, wo_some, wo_none, wo_ite, opQ_eq, seqQ_normal, seqQ_exit, seqQ_ret, blockQ_normal, blockQ_exit, blockQ_ret, iterQ_normal, iterQ_exit, iterQ_ret, retQ_normal, retQ_ret, retQ_exit, pickC_true, pickC_false, pickO_true, pickO_false, gstep_tt, gstep_ff, gstep_tf, gstep_ft, gstep_skip, int_bne, int_beq, decide_not, Nat.reduceAdd, Nat.reduceMul, Nat.reduceSub, Nat.reducePow, Nat.reduceLT, Nat.reduceLeDiff, Nat.reduceEqDiff, Int.reduceToNat, Int.reduceAdd, Int.reduceSub, Int.reduceNeg, Int.reduceMul, Int.reduceLT, Int.reduceLE, Int.reduceEq, le_max, ↓wo_build, ↓wo_buildSlice, evParts, ↓reduceIte, planIds, hasExt, cntFs, idxFs, clnFs, ovlFs, List.contains_cons, List.contains_nil, List.any_cons, List.any_nil, Nat.reduceBEq, setC, List.length_set, decide_eq_true_eq, decide_eq_false_iff_not, true_implies, false_implies, forall_const, reduceCtorEq, eq_self, Int.natCast_nonneg, Int.toNat_natCast, Int.ofNat_lt, D.int.injEq, Option.some.injEq, Nat.zero_add, Nat.add_zero, bne_iff_ne, bne_eq_false_iff_eq, beq_iff_eq, beq_eq_false_iff_ne, gt_iff_lt, ne_eq, not_true_eq_false, not_false_eq_true, planIds, hasExt, cntFs, idxFs, clnFs, ovlFs, List.contains_cons, List.contains_nil, List.any_cons, List.any_nil, Nat.reduceBEq, Nat.reduceMul, Nat.reduceAdd, ↓reduceIte, hal, h9, h10, h11, Nat.lt_irrefl, Tryd.f136]
        rw [hv]; rfl
end Go.Proofs.YteffefjkcappbaaDoor.Dm
