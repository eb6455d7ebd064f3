/-
  The machine at AuditRecords: damaged records are found.
-/
import Derived.Test.YtgfbblpkddahbaaDoorAuR
import Derived.Test.YtgfbblpkddahbaaDoorTv
namespace Go.Proofs.YtgfbblpkddahbaaDoor.Dm
open Go
set_option linter.unusedSimpArgs false

theorem example58 : isT (dcall E 999 9 [] []) = true := by kernel_rfl
theorem example58_c (st : Bool) (S : List Ob) : callD E (dcall E 999) st S 9 [] = some (.bool true, S) := by
  obtain ⟨T, hT⟩ := isT_spec example58
  exact callD_pure rfl rfl hT rfl
theorem faults_c {n : Nat} {d e : D} {fs : List (Int × ByteArray)} {S : List Ob} (hn : fs.length < n) (hl : fs.length ≤ 1000) (hd : FV S d fs) (he : FV S e fs) : callD E (dcall E (n + 1)) false S 10 [d, e] = some (.bool true, S) := by
  have hp := encF_pure fs
  have own : pureL [d, e] = false → callD E (dcall E (n + 1)) false S 10 [d, e] = some (.bool true, S) := fun h => (callD_own rfl h).trans (eq_of_wo (faults_d hn hl hd he))
  have pr : pureL [d, e] = true → FV [] d fs → FV [] e fs → callD E (dcall E (n + 1)) false S 10 [d, e] = some (.bool true, S) := fun h h1 h2 => callD_pure rfl h (eq_of_wo (faults_d hn hl h1 h2)) rfl
  rcases hd with ⟨rfl, rfl⟩ | ⟨x, rfl⟩ | ⟨k, rfl, hk⟩ <;> rcases he with ⟨rfl, he⟩ | ⟨y, rfl⟩ | ⟨k', rfl, hk'⟩ <;> (try subst he) <;>
  first
  | exact pr (by first | (simp [pureL, D.pure, hp]; done) | (simp [pureL, pureLL, D.pure]; done)) (by first | exact .inl ⟨rfl, rfl⟩ | exact .inr (.inl ⟨_, rfl⟩)) (by first | exact .inl ⟨rfl, rfl⟩ | exact .inr (.inl ⟨_, rfl⟩))
  | exact own (by simp [pureL, D.pure])
theorem recF_len (rs : List Rec) (c : Int) : (recF rs c).length ≤ 2 := by
  unfold recF
  split <;> split <;> simp
/-- The records copied so far. -/
def Own (S : List Ob) (d : D) (rs : List Rec) : Prop := (d = .nils ∧ rs = []) ∨ ∃ k, d = .os k 0 rs.length false ∧ S[k]? = some (.row 3 (rs.map Rec.enc)) ∧ 0 < rs.length
theorem Records_c {d : D} {rs : List Rec} {c : Int} {S : List Ob} (h : Own S d rs) (hl : rs.length ≤ 30) (hz : ∀ r ∈ rs, r.t.size ≤ 200) : ∃ r T, callD E (dcall E 999) false S 13 [d, .int .i64 c] = some (r, T) ∧ FV T r (recF rs c) := by
  rcases h with ⟨rfl, rfl⟩ | ⟨k, rfl, hk, -⟩
  · obtain ⟨r, T, ho, hf⟩ := Records_nil (c := c) (S := [])
    obtain ⟨r', h1, h2⟩ := hf.frozen (S := S)
    exact ⟨r', S, callD_pure rfl rfl ho h1, h2⟩
  · obtain ⟨r, T, ho, hf⟩ := Records_d (c := c) hk hl hz
    exact ⟨r, T, (callD_own rfl rfl).trans ho, hf⟩
theorem ref_Records_c {rs : List Rec} {x : Bool} {c : Int} (hl : rs.length ≤ 30) (hz : ∀ r ∈ rs, r.t.size ≤ 200) (S : List Ob) : ∃ r, callD E (dcall E 999) false S 14 [.sl 3 (rs.map Rec.enc) x, .int .i64 c] = some (r, S) ∧ FV S r (recF rs c) := by
  obtain ⟨r, T, ho, hf⟩ := ref_Records_d (x := x) (c := c) (S := []) hl hz
  obtain ⟨r', h1, h2⟩ := hf.frozen (S := S)
  refine ⟨r', callD_pure rfl ?_ ho h1, h2⟩
  have := encR_pure rs x
  simp only [pureL_cons, pureL_nil, Bool.and_true, D.pure] at this ⊢
  exact this
set_option maxHeartbeats 800000 in
set_option maxRecDepth 100000 in
theorem AuditRecords_sl {rs : List Rec} {x : Bool} {c : Int} : WO (dcall E 1000 4 [.sl 3 (rs.map Rec.enc) x, .int .i64 c] []) fun d _ => d = .bool true := by
  have hex := example58_c
  refine wo_dcall Tryd.func4 rfl (by decide) rfl 42 rfl (fun a hal ha => ?_)
  have h0 : a[0]? = some (.sl 3 (rs.map Rec.enc) x) := ha 0 (by simp)
  have h1 : a[1]? = some (.int .i64 c) := ha 1 (by simp)
  clear ha
  by_cases hl : (30 : Int) < rs.length
  · simp (maxSteps := 1000000) (disch := omega) only [push_cast, ↓wc_seq, ↓wc_block, ↓wc_scope, ↓wc_condL, ↓wc_region, ↓wr_cons, ↓wr_consgL, ↓wr_nil, ↓wo_pickL, ↓wo_callf, ↓wc_exit, ↓wc_ret, ↓wc_skip, ↓wc_wl, wo_some, wo_none, wo_ite, opQ_eq, seqQ_normal, seqQ_exit, seqQ_ret, blockQ_normal, blockQ_exit, blockQ_ret, iterQ_normal, iterQ_exit, iterQ_ret, retQ_normal, retQ_ret, retQ_exit, pickC_true, pickC_false, pickO_true, pickO_false, gstep_tt, gstep_ff, gstep_tf, gstep_ft, gstep_skip, int_bne, int_beq, decide_not, Nat.reduceAdd, Nat.reduceMul, Nat.reduceSub, Nat.reducePow, Nat.reduceLT, Nat.reduceLeDiff, Nat.reduceEqDiff, Int.reduceToNat, Int.reduceAdd, Int.reduceSub, Int.reduceNeg, Int.reduceMul, Int.reduceLT, Int.reduceLE, Int.reduceEq, le_max, ↓wo_build, ↓wo_buildSlice, evParts, ↓reduceIte, hasExt, cntFs, ovlFs, List.contains_cons, List.contains_nil, List.any_cons, List.any_nil, Nat.reduceBEq, setC, List.length_set, decide_eq_true_eq, decide_eq_false_iff_not, true_implies, false_implies, forall_const, reduceCtorEq, eq_self, Int.natCast_nonneg, Int.toNat_natCast, Int.ofNat_lt, D.int.injEq, Option.some.injEq, Nat.zero_add, Nat.add_zero, bne_iff_ne, bne_eq_false_iff_eq, beq_iff_eq, beq_eq_false_iff_ne, gt_iff_lt, ne_eq, not_true_eq_false, not_false_eq_true, hal, h0, h1, hl, hex, List.length_map, Tryd.f4]
  · have hl' : rs.length ≤ 30 := by omega
    simp (maxSteps := 1000000) (disch := omega) only [push_cast, ↓wc_seq, ↓wc_block, ↓wc_scope, ↓wc_condL, ↓wc_region, ↓wr_cons, ↓wr_consgL, ↓wr_nil, ↓wo_pickL, ↓wo_callf, ↓wc_exit, ↓wc_ret, ↓wc_skip, ↓wc_wl, wo_some, wo_none, wo_ite, opQ_eq, seqQ_normal, seqQ_exit, seqQ_ret, blockQ_normal, blockQ_exit, blockQ_ret, iterQ_normal, iterQ_exit, iterQ_ret, retQ_normal, retQ_ret, retQ_exit, pickC_true, pickC_false, pickO_true, pickO_false, gstep_tt, gstep_ff, gstep_tf, gstep_ft, gstep_skip, int_bne, int_beq, decide_not, Nat.reduceAdd, Nat.reduceMul, Nat.reduceSub, Nat.reducePow, Nat.reduceLT, Nat.reduceLeDiff, Nat.reduceEqDiff, Int.reduceToNat, Int.reduceAdd, Int.reduceSub, Int.reduceNeg, Int.reduceMul, Int.reduceLT, Int.reduceLE, Int.reduceEq, le_max, ↓wo_build, ↓wo_buildSlice, evParts, ↓reduceIte, hasExt, cntFs, ovlFs, List.contains_cons, List.contains_nil, List.any_cons, List.any_nil, Nat.reduceBEq, setC, List.length_set, decide_eq_true_eq, decide_eq_false_iff_not, true_implies, false_implies, forall_const, reduceCtorEq, eq_self, Int.natCast_nonneg, Int.toNat_natCast, Int.ofNat_lt, D.int.injEq, Option.some.injEq, Nat.zero_add, Nat.add_zero, bne_iff_ne, bne_eq_false_iff_eq, beq_iff_eq, beq_eq_false_iff_ne, gt_iff_lt, ne_eq, not_true_eq_false, not_false_eq_true, hal, h0, h1, hl, hex, List.length_map]
    refine wl_loop (fun i a T => a.length = 42 ∧ a[0]? = some (.sl 3 (rs.map Rec.enc) x) ∧ a[1]? = some (.int .i64 c) ∧ a[6]? = some (.int .i64 i) ∧ (∃ d, a[5]? = some d ∧ Own T d (rs.take i)) ∧ ∀ r ∈ rs.take i, r.t.size ≤ 200) rs.length ?_ (by omega) ?_
    · simp (maxSteps := 1000000) (disch := omega) only [push_cast, ↓wc_seq, ↓wc_block, ↓wc_scope, ↓wc_condL, ↓wc_region, ↓wr_cons, ↓wr_consgL, ↓wr_nil, ↓wo_pickL, ↓wo_callf, ↓wc_exit, ↓wc_ret, ↓wc_skip, ↓wc_wl, wo_some, wo_none, wo_ite, opQ_eq, seqQ_normal, seqQ_exit, seqQ_ret, blockQ_normal, blockQ_exit, blockQ_ret, iterQ_normal, iterQ_exit, iterQ_ret, retQ_normal, retQ_ret, retQ_exit, pickC_true, pickC_false, pickO_true, pickO_false, gstep_tt, gstep_ff, gstep_tf, gstep_ft, gstep_skip, int_bne, int_beq, decide_not, Nat.reduceAdd, Nat.reduceMul, Nat.reduceSub, Nat.reducePow, Nat.reduceLT, Nat.reduceLeDiff, Nat.reduceEqDiff, Int.reduceToNat, Int.reduceAdd, Int.reduceSub, Int.reduceNeg, Int.reduceMul, Int.reduceLT, Int.reduceLE, Int.reduceEq, le_max, ↓wo_build, ↓wo_buildSlice, evParts, ↓reduceIte, hasExt, cntFs, ovlFs, List.contains_cons, List.contains_nil, List.any_cons, List.any_nil, Nat.reduceBEq, setC, List.length_set, decide_eq_true_eq, decide_eq_false_iff_not, true_implies, false_implies, forall_const, reduceCtorEq, eq_self, Int.natCast_nonneg, Int.toNat_natCast, Int.ofNat_lt, D.int.injEq, Option.some.injEq, Nat.zero_add, Nat.add_zero, bne_iff_ne, bne_eq_false_iff_eq, beq_iff_eq, beq_eq_false_iff_ne, gt_iff_lt, ne_eq, not_true_eq_false, not_false_eq_true, hal, h0, h1, Int.natCast_zero]
      exact ⟨⟨_, rfl, .inl ⟨rfl, rfl⟩⟩, by simp⟩
    · rintro i a T hi ⟨hal, h0, h1, h6, ⟨d, h5, ho⟩, hz⟩
      rcases Nat.lt_or_eq_of_le hi with hlt | rfl
      · obtain ⟨r, hr⟩ : ∃ r, rs[i]? = some r := ⟨rs[i], by simp [hlt]⟩
        have ht : rs.take (i + 1) = rs.take i ++ [r] := by rw [List.take_add_one, hr]; rfl
        have hlen : (rs.take i).length = i := by simp; omega
        by_cases hc : (200 : Int) < r.t.size
        · simp (maxSteps := 1000000) (disch := omega) only [push_cast, ↓wc_seq, ↓wc_block, ↓wc_scope, ↓wc_condL, ↓wc_region, ↓wr_cons, ↓wr_consgL, ↓wr_nil, ↓wo_pickL, ↓wo_callf, ↓wc_exit, ↓wc_ret, ↓wc_skip, ↓wc_wl, wo_some, wo_none, wo_ite, opQ_eq, seqQ_normal, seqQ_exit, seqQ_ret, blockQ_normal, blockQ_exit, blockQ_ret, iterQ_normal, iterQ_exit, iterQ_ret, retQ_normal, retQ_ret, retQ_exit, pickC_true, pickC_false, pickO_true, pickO_false, gstep_tt, gstep_ff, gstep_tf, gstep_ft, gstep_skip, int_bne, int_beq, decide_not, Nat.reduceAdd, Nat.reduceMul, Nat.reduceSub, Nat.reducePow, Nat.reduceLT, Nat.reduceLeDiff, Nat.reduceEqDiff, Int.reduceToNat, Int.reduceAdd, Int.reduceSub, Int.reduceNeg, Int.reduceMul, Int.reduceLT, Int.reduceLE, Int.reduceEq, le_max, ↓wo_build, ↓wo_buildSlice, evParts, ↓reduceIte, hasExt, cntFs, ovlFs, List.contains_cons, List.contains_nil, List.any_cons, List.any_nil, Nat.reduceBEq, setC, List.length_set, decide_eq_true_eq, decide_eq_false_iff_not, true_implies, false_implies, forall_const, reduceCtorEq, eq_self, Int.natCast_nonneg, Int.toNat_natCast, Int.ofNat_lt, D.int.injEq, Option.some.injEq, Nat.zero_add, Nat.add_zero, bne_iff_ne, bne_eq_false_iff_eq, beq_iff_eq, beq_eq_false_iff_ne, gt_iff_lt, ne_eq, not_true_eq_false, not_false_eq_true, hal, h0, h1, h5, h6, hlt, hr, hc, hex, wrap_ok, List.length_map, List.getElem?_map, Rec.enc, Tryd.f4]
        · have hz' : ∀ q ∈ rs.take (i + 1), q.t.size ≤ 200 := by
            rw [ht]
            intro q hq
            rcases List.mem_append.1 hq with hq | hq
            · exact hz q hq
            · simp only [List.mem_singleton] at hq; subst hq; omega
          rcases ho with ⟨rfl, hnil⟩ | ⟨k, rfl, hk, hpos⟩
          · simp (maxSteps := 1000000) (disch := omega) only [push_cast, ↓wc_seq, ↓wc_block, ↓wc_scope, ↓wc_condL, ↓wc_region, ↓wr_cons, ↓wr_consgL, ↓wr_nil, ↓wo_pickL, ↓wo_callf, ↓wc_exit, ↓wc_ret, ↓wc_skip, ↓wc_wl, wo_some, wo_none, wo_ite, opQ_eq, seqQ_normal, seqQ_exit, seqQ_ret, blockQ_normal, blockQ_exit, blockQ_ret, iterQ_normal, iterQ_exit, iterQ_ret, retQ_normal, retQ_ret, retQ_exit, pickC_true, pickC_false, pickO_true, pickO_false, gstep_tt, gstep_ff, gstep_tf, gstep_ft, gstep_skip, int_bne, int_beq, decide_not, Nat.reduceAdd, Nat.reduceMul, Nat.reduceSub, Nat.reducePow, Nat.reduceLT, Nat.reduceLeDiff, Nat.reduceEqDiff, Int.reduceToNat, Int.reduceAdd, Int.reduceSub, Int.reduceNeg, Int.reduceMul, Int.reduceLT, Int.reduceLE, Int.reduceEq, le_max, ↓wo_build, ↓wo_buildSlice, evParts, ↓reduceIte, hasExt, cntFs, ovlFs, List.contains_cons, List.contains_nil, List.any_cons, List.any_nil, Nat.reduceBEq, setC, List.length_set, decide_eq_true_eq, decide_eq_false_iff_not, true_implies, false_implies, forall_const, reduceCtorEq, eq_self, Int.natCast_nonneg, Int.toNat_natCast, Int.ofNat_lt, D.int.injEq, Option.some.injEq, Nat.zero_add, Nat.add_zero, bne_iff_ne, bne_eq_false_iff_eq, beq_iff_eq, beq_eq_false_iff_ne, gt_iff_lt, ne_eq, not_true_eq_false, not_false_eq_true, hal, h0, h1, h5, h6, hlt, hr, hc, wrap_ok, List.length_map, List.getElem?_map, Rec.enc, dAppend, Int.natCast_add, Int.natCast_one]
            refine ⟨⟨_, rfl, .inr ⟨T.length, ?_, ?_, ?_⟩⟩, hz'⟩
            · rw [ht, hnil]; rfl
            · rw [ht, hnil]; exact get_end
            · rw [ht]; simp
          · rw [hlen] at h5
            have hel : ((rs.take i).map Rec.enc).length = i := by rw [List.length_map, hlen]
            generalize hes : (rs.take i).map Rec.enc = es at *
            simp (maxSteps := 1000000) (disch := omega) only [push_cast, ↓wc_seq, ↓wc_block, ↓wc_scope, ↓wc_condL, ↓wc_region, ↓wr_cons, ↓wr_consgL, ↓wr_nil, ↓wo_pickL, ↓wo_callf, ↓wc_exit, ↓wc_ret, ↓wc_skip, ↓wc_wl, wo_some, wo_none, wo_ite, opQ_eq, seqQ_normal, seqQ_exit, seqQ_ret, blockQ_normal, blockQ_exit, blockQ_ret, iterQ_normal, iterQ_exit, iterQ_ret, retQ_normal, retQ_ret, retQ_exit, pickC_true, pickC_false, pickO_true, pickO_false, gstep_tt, gstep_ff, gstep_tf, gstep_ft, gstep_skip, int_bne, int_beq, decide_not, Nat.reduceAdd, Nat.reduceMul, Nat.reduceSub, Nat.reducePow, Nat.reduceLT, Nat.reduceLeDiff, Nat.reduceEqDiff, Int.reduceToNat, Int.reduceAdd, Int.reduceSub, Int.reduceNeg, Int.reduceMul, Int.reduceLT, Int.reduceLE, Int.reduceEq, le_max, ↓wo_build, ↓wo_buildSlice, evParts, ↓reduceIte, hasExt, cntFs, ovlFs, List.contains_cons, List.contains_nil, List.any_cons, List.any_nil, Nat.reduceBEq, setC, List.length_set, decide_eq_true_eq, decide_eq_false_iff_not, true_implies, false_implies, forall_const, reduceCtorEq, eq_self, Int.natCast_nonneg, Int.toNat_natCast, Int.ofNat_lt, D.int.injEq, Option.some.injEq, Nat.zero_add, Nat.add_zero, bne_iff_ne, bne_eq_false_iff_eq, beq_iff_eq, beq_eq_false_iff_ne, gt_iff_lt, ne_eq, not_true_eq_false, not_false_eq_true, hal, h0, h1, h5, h6, hlt, hr, hc, hk, hel, wrap_ok, if_pos, List.length_map, List.getElem?_map, Rec.enc, dAppend, Int.natCast_add, Int.natCast_one, Nat.le_refl]
            have hm : (es.take i).length = i := by simp; omega
            rw [hm]
            refine ⟨⟨by simp only [maxLen]; omega, by omega⟩, ⟨_, rfl, .inr ⟨T.length, ?_, ?_, ?_⟩⟩, hz'⟩
            · rw [ht, List.length_append, hlen]; rfl
            · rw [ht, List.map_append, hes]; exact get_end'
            · rw [ht]; simp
      · obtain ⟨q, T', hq, hf⟩ := Records_c (c := c) ho (by simp; omega) hz
        obtain ⟨q2, hq2, hf2⟩ := ref_Records_c (x := x) (c := c) hl' (by simpa using hz) T'
        rw [List.take_length] at hf
        have hfc := faults_c (n := 998) (by have := recF_len rs c; omega) (by have := recF_len rs c; omega) hf hf2
        simp (maxSteps := 1000000) (disch := omega) only [push_cast, ↓wc_seq, ↓wc_block, ↓wc_scope, ↓wc_condL, ↓wc_region, ↓wr_cons, ↓wr_consgL, ↓wr_nil, ↓wo_pickL, ↓wo_callf, ↓wc_exit, ↓wc_ret, ↓wc_skip, ↓wc_wl, wo_some, wo_none, wo_ite, opQ_eq, seqQ_normal, seqQ_exit, seqQ_ret, blockQ_normal, blockQ_exit, blockQ_ret, iterQ_normal, iterQ_exit, iterQ_ret, retQ_normal, retQ_ret, retQ_exit, pickC_true, pickC_false, pickO_true, pickO_false, gstep_tt, gstep_ff, gstep_tf, gstep_ft, gstep_skip, int_bne, int_beq, decide_not, Nat.reduceAdd, Nat.reduceMul, Nat.reduceSub, Nat.reducePow, Nat.reduceLT, Nat.reduceLeDiff, Nat.reduceEqDiff, Int.reduceToNat, Int.reduceAdd, Int.reduceSub, Int.reduceNeg, Int.reduceMul, Int.reduceLT, Int.reduceLE, Int.reduceEq, le_max, ↓wo_build, ↓wo_buildSlice, evParts, ↓reduceIte, hasExt, cntFs, ovlFs, List.contains_cons, List.contains_nil, List.any_cons, List.any_nil, Nat.reduceBEq, setC, List.length_set, decide_eq_true_eq, decide_eq_false_iff_not, true_implies, false_implies, forall_const, reduceCtorEq, eq_self, Int.natCast_nonneg, Int.toNat_natCast, Int.ofNat_lt, D.int.injEq, Option.some.injEq, Nat.zero_add, Nat.add_zero, bne_iff_ne, bne_eq_false_iff_eq, beq_iff_eq, beq_eq_false_iff_ne, gt_iff_lt, ne_eq, not_true_eq_false, not_false_eq_true, hal, h0, h1, h5, h6, Nat.lt_irrefl, hq, hq2, hfc, hex, wrap_ok, List.length_map, Tryd.f4]
set_option maxHeartbeats 400000 in
set_option maxRecDepth 100000 in
theorem ref_Records_nil {c : Int} {S : List Ob} : WO (dcall E 999 14 [.nils, .int .i64 c] S) fun d T => FV T d (recF [] c) := by
  have hv : dcall E 998 46 [.nils] [] = some (.tup [.int .i64 0, .int .i64 0], []) := by kernel_rfl
  have cv : ∀ st S, callD E (dcall E 998) st S 46 [.nils] = some (.tup [.int .i64 0, .int .i64 0], S) := fun st S => callD_pure rfl rfl hv rfl
  unfold recF
  generalize decS (verR 0 0 []).1.toNat = ds at *
  have e0 : (verR 0 0 []).2 = 0 := rfl
  refine wo_dcall Tryd.func14 rfl (by decide) rfl 34 rfl (fun a hal ha => ?_)
  have h0 : a[0]? = some .nils := ha 0 (by simp)
  have h1 : a[1]? = some (.int .i64 c) := ha 1 (by simp)
  clear ha
  by_cases hc : c < 0 <;> by_cases hc' : 0 < c <;>
  · simp (maxSteps := 1000000) (disch := omega) only [push_cast, ↓wc_seq, ↓wc_block, ↓wc_scope, ↓wc_condL, ↓wc_region, ↓wr_cons, ↓wr_consgL, ↓wr_nil, ↓wo_pickL, ↓wo_callf, ↓wc_exit, ↓wc_ret, ↓wc_skip, ↓wc_wl, wo_some, wo_none, wo_ite, opQ_eq, seqQ_normal, seqQ_exit, seqQ_ret, blockQ_normal, blockQ_exit, blockQ_ret, iterQ_normal, iterQ_exit, iterQ_ret, retQ_normal, retQ_ret, retQ_exit, pickC_true, pickC_false, pickO_true, pickO_false, gstep_tt, gstep_ff, gstep_tf, gstep_ft, gstep_skip, int_bne, int_beq, decide_not, Nat.reduceAdd, Nat.reduceMul, Nat.reduceSub, Nat.reducePow, Nat.reduceLT, Nat.reduceLeDiff, Nat.reduceEqDiff, Int.reduceToNat, Int.reduceAdd, Int.reduceSub, Int.reduceNeg, Int.reduceMul, Int.reduceLT, Int.reduceLE, Int.reduceEq, le_max, ↓wo_build, ↓wo_buildSlice, evParts, ↓reduceIte, hasExt, cntFs, ovlFs, List.contains_cons, List.contains_nil, List.any_cons, List.any_nil, Nat.reduceBEq, setC, List.length_set, decide_eq_true_eq, decide_eq_false_iff_not, true_implies, false_implies, forall_const, reduceCtorEq, eq_self, Int.natCast_nonneg, Int.toNat_natCast, Int.ofNat_lt, D.int.injEq, Option.some.injEq, Nat.zero_add, Nat.add_zero, bne_iff_ne, bne_eq_false_iff_eq, beq_iff_eq, beq_eq_false_iff_ne, gt_iff_lt, ne_eq, not_true_eq_false, not_false_eq_true, hal, h0, h1, cv, e0, hc, hc', List.length_map, Int.natCast_zero, or_true, true_or, or_false, dAppend, get_end, get_end', Tryd.f14]
    first
    | exact .inl ⟨rfl, rfl⟩
    | exact .inr (.inr ⟨_, rfl, get_end⟩)
    | exact .inr (.inr ⟨_, rfl, get_end'⟩)
set_option maxHeartbeats 400000 in
set_option maxRecDepth 100000 in
theorem AuditRecords_nils {c : Int} : WO (dcall E 1000 4 [.nils, .int .i64 c] []) fun d _ => d = .bool true := by
  have hex := example58_c
  refine wo_dcall Tryd.func4 rfl (by decide) rfl 42 rfl (fun a hal ha => ?_)
  have h0 : a[0]? = some .nils := ha 0 (by simp)
  have h1 : a[1]? = some (.int .i64 c) := ha 1 (by simp)
  clear ha
  simp (maxSteps := 1000000) (disch := omega) only [push_cast, ↓wc_seq, ↓wc_block, ↓wc_scope, ↓wc_condL, ↓wc_region, ↓wr_cons, ↓wr_consgL, ↓wr_nil, ↓wo_pickL, ↓wo_callf, ↓wc_exit, ↓wc_ret, ↓wc_skip, ↓wc_wl, wo_some, wo_none, wo_ite, opQ_eq, seqQ_normal, seqQ_exit, seqQ_ret, blockQ_normal, blockQ_exit, blockQ_ret, iterQ_normal, iterQ_exit, iterQ_ret, retQ_normal, retQ_ret, retQ_exit, pickC_true, pickC_false, pickO_true, pickO_false, gstep_tt, gstep_ff, gstep_tf, gstep_ft, gstep_skip, int_bne, int_beq, decide_not, Nat.reduceAdd, Nat.reduceMul, Nat.reduceSub, Nat.reducePow, Nat.reduceLT, Nat.reduceLeDiff, Nat.reduceEqDiff, Int.reduceToNat, Int.reduceAdd, Int.reduceSub, Int.reduceNeg, Int.reduceMul, Int.reduceLT, Int.reduceLE, Int.reduceEq, le_max, ↓wo_build, ↓wo_buildSlice, evParts, ↓reduceIte, hasExt, cntFs, ovlFs, List.contains_cons, List.contains_nil, List.any_cons, List.any_nil, Nat.reduceBEq, setC, List.length_set, decide_eq_true_eq, decide_eq_false_iff_not, true_implies, false_implies, forall_const, reduceCtorEq, eq_self, Int.natCast_nonneg, Int.toNat_natCast, Int.ofNat_lt, D.int.injEq, Option.some.injEq, Nat.zero_add, Nat.add_zero, bne_iff_ne, bne_eq_false_iff_eq, beq_iff_eq, beq_eq_false_iff_ne, gt_iff_lt, ne_eq, not_true_eq_false, not_false_eq_true, hal, h0, h1]
  refine wl_loop (fun i a T => a.length = 42 ∧ a[0]? = some .nils ∧ a[1]? = some (.int .i64 c) ∧ a[6]? = some (.int .i64 0) ∧ a[5]? = some .nils) 0 ?_ (by omega) ?_
  · simp (maxSteps := 1000000) (disch := omega) only [push_cast, ↓wc_seq, ↓wc_block, ↓wc_scope, ↓wc_condL, ↓wc_region, ↓wr_cons, ↓wr_consgL, ↓wr_nil, ↓wo_pickL, ↓wo_callf, ↓wc_exit, ↓wc_ret, ↓wc_skip, ↓wc_wl, wo_some, wo_none, wo_ite, opQ_eq, seqQ_normal, seqQ_exit, seqQ_ret, blockQ_normal, blockQ_exit, blockQ_ret, iterQ_normal, iterQ_exit, iterQ_ret, retQ_normal, retQ_ret, retQ_exit, pickC_true, pickC_false, pickO_true, pickO_false, gstep_tt, gstep_ff, gstep_tf, gstep_ft, gstep_skip, int_bne, int_beq, decide_not, Nat.reduceAdd, Nat.reduceMul, Nat.reduceSub, Nat.reducePow, Nat.reduceLT, Nat.reduceLeDiff, Nat.reduceEqDiff, Int.reduceToNat, Int.reduceAdd, Int.reduceSub, Int.reduceNeg, Int.reduceMul, Int.reduceLT, Int.reduceLE, Int.reduceEq, le_max, ↓wo_build, ↓wo_buildSlice, evParts, ↓reduceIte, hasExt, cntFs, ovlFs, List.contains_cons, List.contains_nil, List.any_cons, List.any_nil, Nat.reduceBEq, setC, List.length_set, decide_eq_true_eq, decide_eq_false_iff_not, true_implies, false_implies, forall_const, reduceCtorEq, eq_self, Int.natCast_nonneg, Int.toNat_natCast, Int.ofNat_lt, D.int.injEq, Option.some.injEq, Nat.zero_add, Nat.add_zero, bne_iff_ne, bne_eq_false_iff_eq, beq_iff_eq, beq_eq_false_iff_ne, gt_iff_lt, ne_eq, not_true_eq_false, not_false_eq_true, hal, h0, h1]
  · rintro i a T hi ⟨hal, h0, h1, h6, h5⟩
    obtain ⟨q, T', hq, hf⟩ := Records_c (c := c) (S := T) (.inl ⟨rfl, rfl⟩) (by simp) (by simp)
    obtain ⟨q2, T2, hq2, hf2⟩ := ref_Records_nil (c := c) (S := [])
    obtain ⟨r2, e1, e2⟩ := hf2.frozen (S := T')
    have cr : callD E (dcall E 999) false T' 14 [.nils, .int .i64 c] = some (r2, T') := callD_pure rfl rfl hq2 e1
    have hfc := faults_c (n := 998) (by have := recF_len [] c; omega) (by have := recF_len [] c; omega) hf e2
    simp (maxSteps := 1000000) (disch := omega) only [push_cast, ↓wc_seq, ↓wc_block, ↓wc_scope, ↓wc_condL, ↓wc_region, ↓wr_cons, ↓wr_consgL, ↓wr_nil, ↓wo_pickL, ↓wo_callf, ↓wc_exit, ↓wc_ret, ↓wc_skip, ↓wc_wl, wo_some, wo_none, wo_ite, opQ_eq, seqQ_normal, seqQ_exit, seqQ_ret, blockQ_normal, blockQ_exit, blockQ_ret, iterQ_normal, iterQ_exit, iterQ_ret, retQ_normal, retQ_ret, retQ_exit, pickC_true, pickC_false, pickO_true, pickO_false, gstep_tt, gstep_ff, gstep_tf, gstep_ft, gstep_skip, int_bne, int_beq, decide_not, Nat.reduceAdd, Nat.reduceMul, Nat.reduceSub, Nat.reducePow, Nat.reduceLT, Nat.reduceLeDiff, Nat.reduceEqDiff, Int.reduceToNat, Int.reduceAdd, Int.reduceSub, Int.reduceNeg, Int.reduceMul, Int.reduceLT, Int.reduceLE, Int.reduceEq, le_max, ↓wo_build, ↓wo_buildSlice, evParts, ↓reduceIte, hasExt, cntFs, ovlFs, List.contains_cons, List.contains_nil, List.any_cons, List.any_nil, Nat.reduceBEq, setC, List.length_set, decide_eq_true_eq, decide_eq_false_iff_not, true_implies, false_implies, forall_const, reduceCtorEq, eq_self, Int.natCast_nonneg, Int.toNat_natCast, Int.ofNat_lt, D.int.injEq, Option.some.injEq, Nat.zero_add, Nat.add_zero, bne_iff_ne, bne_eq_false_iff_eq, beq_iff_eq, beq_eq_false_iff_ne, gt_iff_lt, ne_eq, not_true_eq_false, not_false_eq_true, hal, h0, h1, h5, h6, hq, cr, hfc, hex, Tryd.f4]
end Go.Proofs.YtgfbblpkddahbaaDoor.Dm
