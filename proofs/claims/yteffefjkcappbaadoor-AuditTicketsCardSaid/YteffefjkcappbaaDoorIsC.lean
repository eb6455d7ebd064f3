/-
  The machine at the coupons of a ticket that is checked.
-/
import Derived.Test.YteffefjkcappbaaDoorIsA
import Derived.Test.YteffefjkcappbaaDoorMoA
namespace Go.Proofs.YteffefjkcappbaaDoor.Dm
open Go
set_option linter.unusedSimpArgs false

/-- A box with a list of violations, whose objects are all at or behind a place. -/
def CellB (bd : Nat) (S : List Ob) (o : Nat) (fs : List (Int × ByteArray)) : Prop := bd ≤ o ∧ ∃ d, S[o]? = some (.row 1 [[d]]) ∧ GV S d fs ∧ (∀ k n, d = .os k 0 n false → bd ≤ k ∧ k ≠ o)
theorem CellB.push {bd : Nat} {S : List Ob} {o : Nat} {fs : List (Int × ByteArray)} (h : CellB bd S o fs) (x : Ob) : CellB bd (S ++ [x]) o fs := by
  obtain ⟨h0, d, h1, h2, h3⟩ := h
  exact ⟨h0, d, get_old h1, h2.push x, h3⟩
def Keep2 (bd o : Nat) (S T : List Ob) : Prop := (∀ (k sz : Nat) (es : List (List D)), sz ≠ 2 → k ≠ o → S[k]? = some (.row sz es) → T[k]? = some (.row sz es)) ∧ ∀ (k : Nat) (x : Ob), k < bd → S[k]? = some x → T[k]? = some x
theorem Keep2.push {bd o : Nat} {S T : List Ob} (h : Keep2 bd o S T) (x : Ob) : Keep2 bd o S (T ++ [x]) :=
  ⟨fun k sz es hz hk hs => get_old (h.1 k sz es hz hk hs), fun k y hk hs => get_old (h.2 k y hk hs)⟩
theorem Keep2.trans {bd o : Nat} {S T U : List Ob} (h : Keep2 bd o S T) (g : Keep2 bd o T U) : Keep2 bd o S U :=
  ⟨fun k sz es hz hk hs => g.1 k sz es hz hk (h.1 k sz es hz hk hs), fun k y hk hs => g.2 k y hk (h.2 k y hk hs)⟩
theorem Keep2.refl {bd o : Nat} {S : List Ob} : Keep2 bd o S S := ⟨fun _ _ _ _ _ h => h, fun _ _ _ h => h⟩
set_option maxHeartbeats 400000 in
set_option maxRecDepth 100000 in
theorem fadd_c {bd n : Nat} (hn : 1 ≤ n) {b : Bool} {e : Int} {s : ByteArray} {o : Nat} {S : List Ob} {fs : List (Int × ByteArray)} (h : CellB bd S o fs) (hl : fs.length ≤ 1000) :
    ∃ T, callD E (dcall E n) false S 133 [.loc o 0 0, .bool b, .int .i64 e, .str s] = some (.bool b, T) ∧ CellB bd T o (fs ++ if b = true then [(e, s)] else []) ∧ Keep2 bd o S T ∧ (b = false → T = S) := by
  obtain ⟨m, rfl⟩ : ∃ m, n = m + 1 := ⟨n - 1, by omega⟩
  obtain ⟨hbo, d, hd, ho, hne⟩ := h
  obtain ⟨S', ha', hk, hkeep⟩ := app_fault ho hl e s
  have ho' := hkeep o _ (fun n e => (hne o n e).2 rfl) hd
  have hlt : o < S.length := (List.getElem?_eq_some_iff.1 hd).1
  have hkp : ∀ (k sz : Nat) (es : List (List D)), sz ≠ 2 → S[k]? = some (.row sz es) → S'[k]? = some (.row sz es) := fun k sz es hz hs => hkeep k _ (fun n e => by
    subst e
    rcases ho with ⟨h1, -⟩ | ⟨k', h1, h2⟩
    · cases h1
    · cases h1
      rw [hs] at h2
      injection h2 with h2
      injection h2 with h2 _
      exact hz h2) hs
  have hkb : ∀ (k : Nat) (x : Ob), k < bd → S[k]? = some x → S'[k]? = some x := fun k x hk hs => hkeep k _ (fun n e => by have := (hne k n e).1; omega) hs
  have : WO (dcall E (m + 1) 133 [.loc o 0 0, .bool b, .int .i64 e, .str s] S) fun r T => r = .bool b ∧ CellB bd T o (fs ++ if b = true then [(e, s)] else []) ∧ Keep2 bd o S T ∧ (b = false → T = S) := by
    refine wo_dcall Tryd.func133 rfl (by decide) rfl 23 rfl (fun a hal ha => ?_)
    have h0 : a[0]? = some (.loc o 0 0) := ha 0 (by simp)
    have h1 : a[1]? = some (.bool b) := ha 1 (by simp)
    have h2 : a[2]? = some (.int .i64 e) := ha 2 (by simp)
    have h3 : a[3]? = some (.str s) := ha 3 (by simp)
    clear ha
    cases b
    · simp (maxSteps := 1000000) (disch := omega) only [push_cast, ↓wc_seq, ↓wc_block, ↓wc_scope, ↓wc_condL, ↓wc_region, ↓wr_cons, ↓wr_consgL, ↓wr_nil, ↓wo_pickL, ↓wo_callf, ↓wc_exit, ↓wc_ret, ↓wc_skip, ↓wc_wl, wo_some, wo_none, wo_ite, opQ_eq, seqQ_normal, seqQ_exit, seqQ_ret, blockQ_normal, blockQ_exit, blockQ_ret, iterQ_normal, iterQ_exit, iterQ_ret, retQ_normal, retQ_ret, retQ_exit, pickC_true, pickC_false, pickO_true, pickO_false, gstep_tt, gstep_ff, gstep_tf, gstep_ft, gstep_skip, int_bne, int_beq, decide_not, Nat.reduceAdd, Nat.reduceMul, Nat.reduceSub, Nat.reducePow, Nat.reduceLT, Nat.reduceLeDiff, Nat.reduceEqDiff, Int.reduceToNat, Int.reduceAdd, Int.reduceSub, Int.reduceNeg, Int.reduceMul, Int.reduceLT, Int.reduceLE, Int.reduceEq, le_max, ↓wo_build, ↓wo_buildSlice, evParts, ↓reduceIte, planIds, hasExt, cntFs, idxFs, clnFs, ovlFs, List.contains_cons, List.contains_nil, List.any_cons, List.any_nil, Nat.reduceBEq, setC, List.length_set, decide_eq_true_eq, decide_eq_false_iff_not, true_implies, false_implies, forall_const, reduceCtorEq, eq_self, Int.natCast_nonneg, Int.toNat_natCast, Int.ofNat_lt, D.int.injEq, Option.some.injEq, Nat.zero_add, Nat.add_zero, bne_iff_ne, bne_eq_false_iff_eq, beq_iff_eq, beq_eq_false_iff_ne, gt_iff_lt, ne_eq, not_true_eq_false, not_false_eq_true, planIds, hasExt, cntFs, idxFs, clnFs, ovlFs, List.contains_cons, List.contains_nil, List.any_cons, List.any_nil, Nat.reduceBEq, Nat.reduceMul, Nat.reduceAdd, ↓reduceIte, hal, h0, h1, h2, h3, Tryd.f133]
      exact ⟨⟨hbo, d, hd, ho, hne⟩, Keep2.refl⟩
    · simp (maxSteps := 1000000) (disch := omega) only [push_cast, ↓wc_seq, ↓wc_block, ↓wc_scope, ↓wc_condL, ↓wc_region, ↓wr_cons, ↓wr_consgL, ↓wr_nil, ↓wo_pickL, ↓wo_callf, ↓wc_exit, ↓wc_ret, ↓wc_skip, ↓wc_wl, wo_some, wo_none, wo_ite, opQ_eq, seqQ_normal, seqQ_exit, seqQ_ret, blockQ_normal, blockQ_exit, blockQ_ret, iterQ_normal, iterQ_exit, iterQ_ret, retQ_normal, retQ_ret, retQ_exit, pickC_true, pickC_false, pickO_true, pickO_false, gstep_tt, gstep_ff, gstep_tf, gstep_ft, gstep_skip, int_bne, int_beq, decide_not, Nat.reduceAdd, Nat.reduceMul, Nat.reduceSub, Nat.reducePow, Nat.reduceLT, Nat.reduceLeDiff, Nat.reduceEqDiff, Int.reduceToNat, Int.reduceAdd, Int.reduceSub, Int.reduceNeg, Int.reduceMul, Int.reduceLT, Int.reduceLE, Int.reduceEq, le_max, ↓wo_build, ↓wo_buildSlice, evParts, ↓reduceIte, planIds, hasExt, cntFs, idxFs, clnFs, ovlFs, List.contains_cons, List.contains_nil, List.any_cons, List.any_nil, Nat.reduceBEq, setC, List.length_set, decide_eq_true_eq, decide_eq_false_iff_not, true_implies, false_implies, forall_const, reduceCtorEq, eq_self, Int.natCast_nonneg, Int.toNat_natCast, Int.ofNat_lt, D.int.injEq, Option.some.injEq, Nat.zero_add, Nat.add_zero, bne_iff_ne, bne_eq_false_iff_eq, beq_iff_eq, beq_eq_false_iff_ne, gt_iff_lt, ne_eq, not_true_eq_false, not_false_eq_true, planIds, hasExt, cntFs, idxFs, clnFs, ovlFs, List.contains_cons, List.contains_nil, List.any_cons, List.any_nil, Nat.reduceBEq, Nat.reduceMul, Nat.reduceAdd, ↓reduceIte, hal, h0, h1, h2, h3, hd, ha', ho', Tryd.f133]
      have hn : o ≠ S.length := by omega
      exact ⟨⟨hbo, _, set_same' ho', .inr ⟨S.length, by rw [List.length_append]; rfl, by rw [List.getElem?_set_ne hn]; exact hk⟩, fun k n e => by injection e with e1; omega⟩, fun k sz es hz hko h => by rw [List.getElem?_set_ne (Ne.symm hko)]; exact hkp k sz es hz h, fun k x hkb' h => by rw [List.getElem?_set_ne (by omega)]; exact hkb k x hkb' h⟩
  obtain ⟨r, T, hT, rfl, h1, h2, h3⟩ := this
  exact ⟨T, (callD_own rfl (by simp [pureL, D.pure])).trans hT, h1, h2, h3⟩
def clsB (s : ByteArray) : Bool := decide (s.size = 1) && capB ((s[0]?).getD 0)
theorem class_c {n : Nat} (hn : 3 ≤ n) (s : ByteArray) (st : Bool) (S : List Ob) : callD E (dcall E n) st S 194 [.str s] = some (.bool (clsB s), S) := by
  obtain ⟨m, rfl⟩ : ∃ m, n = m + 1 := ⟨n - 1, by omega⟩
  have c1 := capital_c (n := m) (by omega)
  have : WO (dcall E (m + 1) 194 [.str s] []) fun d T => d = .bool (clsB s) ∧ T = [] := by
    refine wo_dcall Tryd.func194 rfl (by decide) rfl 11 rfl (fun a hal ha => ?_)
    have h0 : a[0]? = some (.str s) := ha 0 (by simp)
    clear ha
    unfold clsB
    by_cases h1 : s.size = 1
    · have h1' : (s.size : Int) = 1 := by omega
      obtain ⟨b, hb⟩ := byte_at' (s := s) (i := 0) (by omega)
      rw [hb]
      simp (maxSteps := 1000000) (disch := omega) only [push_cast, ↓wc_seq, ↓wc_block, ↓wc_scope, ↓wc_condL, ↓wc_region, ↓wr_cons, ↓wr_consgL, ↓wr_nil, ↓wo_pickL, ↓wo_callf, ↓wc_exit, ↓wc_ret, ↓wc_skip, ↓wc_wl, wo_some, wo_none, wo_ite, opQ_eq, seqQ_normal, seqQ_exit, seqQ_ret, blockQ_normal, blockQ_exit, blockQ_ret, iterQ_normal, iterQ_exit, iterQ_ret, retQ_normal, retQ_ret, retQ_exit, pickC_true, pickC_false, pickO_true, pickO_false, gstep_tt, gstep_ff, gstep_tf, gstep_ft, gstep_skip, int_bne, int_beq, decide_not, Nat.reduceAdd, Nat.reduceMul, Nat.reduceSub, Nat.reducePow, Nat.reduceLT, Nat.reduceLeDiff, Nat.reduceEqDiff, Int.reduceToNat, Int.reduceAdd, Int.reduceSub, Int.reduceNeg, Int.reduceMul, Int.reduceLT, Int.reduceLE, Int.reduceEq, le_max, ↓wo_build, ↓wo_buildSlice, evParts, ↓reduceIte, planIds, hasExt, cntFs, idxFs, clnFs, ovlFs, List.contains_cons, List.contains_nil, List.any_cons, List.any_nil, Nat.reduceBEq, setC, List.length_set, decide_eq_true_eq, decide_eq_false_iff_not, true_implies, false_implies, forall_const, reduceCtorEq, eq_self, Int.natCast_nonneg, Int.toNat_natCast, Int.ofNat_lt, D.int.injEq, Option.some.injEq, Nat.zero_add, Nat.add_zero, bne_iff_ne, bne_eq_false_iff_eq, beq_iff_eq, beq_eq_false_iff_ne, gt_iff_lt, ne_eq, not_true_eq_false, not_false_eq_true, planIds, hasExt, cntFs, idxFs, clnFs, ovlFs, List.contains_cons, List.contains_nil, List.any_cons, List.any_nil, Nat.reduceBEq, Nat.reduceMul, Nat.reduceAdd, ↓reduceIte, hal, h0, h1, h1', hb, c1, decide_true, Bool.true_and, Tryd.f194]
    · have h1' : ¬ (s.size : Int) = 1 := by omega
      simp (maxSteps := 1000000) (disch := omega) only [push_cast, ↓wc_seq, ↓wc_block, ↓wc_scope, ↓wc_condL, ↓wc_region, ↓wr_cons, ↓wr_consgL, ↓wr_nil, ↓wo_pickL, ↓wo_callf, ↓wc_exit, ↓wc_ret, ↓wc_skip, ↓wc_wl, wo_some, wo_none, wo_ite, opQ_eq, seqQ_normal, seqQ_exit, seqQ_ret, blockQ_normal, blockQ_exit, blockQ_ret, iterQ_normal, iterQ_exit, iterQ_ret, retQ_normal, retQ_ret, retQ_exit, pickC_true, pickC_false, pickO_true, pickO_false, gstep_tt, gstep_ff, gstep_tf, gstep_ft, gstep_skip, int_bne, int_beq, decide_not, Nat.reduceAdd, Nat.reduceMul, Nat.reduceSub, Nat.reducePow, Nat.reduceLT, Nat.reduceLeDiff, Nat.reduceEqDiff, Int.reduceToNat, Int.reduceAdd, Int.reduceSub, Int.reduceNeg, Int.reduceMul, Int.reduceLT, Int.reduceLE, Int.reduceEq, le_max, ↓wo_build, ↓wo_buildSlice, evParts, ↓reduceIte, planIds, hasExt, cntFs, idxFs, clnFs, ovlFs, List.contains_cons, List.contains_nil, List.any_cons, List.any_nil, Nat.reduceBEq, setC, List.length_set, decide_eq_true_eq, decide_eq_false_iff_not, true_implies, false_implies, forall_const, reduceCtorEq, eq_self, Int.natCast_nonneg, Int.toNat_natCast, Int.ofNat_lt, D.int.injEq, Option.some.injEq, Nat.zero_add, Nat.add_zero, bne_iff_ne, bne_eq_false_iff_eq, beq_iff_eq, beq_eq_false_iff_ne, gt_iff_lt, ne_eq, not_true_eq_false, not_false_eq_true, planIds, hasExt, cntFs, idxFs, clnFs, ovlFs, List.contains_cons, List.contains_nil, List.any_cons, List.any_nil, Nat.reduceBEq, Nat.reduceMul, Nat.reduceAdd, ↓reduceIte, hal, h0, h1, h1', decide_false, Bool.false_and, Tryd.f194]
  exact callD_pure rfl rfl (eq_of_wo this) rfl
def cpS : ByteArray := ByteArray.mk #[99, 111, 117, 112, 111, 110, 115, 46]
noncomputable def atC (i : Nat) : ByteArray := cpS ++ decS i
def badSt (c : Cpn) : Bool := decide (c.st < 1) || decide (8 < c.st)
noncomputable def cpF (i : Nat) (c : Cpn) : List (Int × ByteArray) :=
  (if badSt c = true then [(8, atC i)] else []) ++ (if (!clsB c.w8) = true then [(16, atC i)] else []) ++ if (!amtB c.v) = true then [(11, atC i)] else []
noncomputable def cpsF : Nat → List Cpn → List (Int × ByteArray)
  | _, [] => []
  | i, c :: l => cpF i c ++ cpsF (i + 1) l
def cpsS (s : Int) (r : Bool) : List Cpn → Int × Bool
  | [] => (s, r)
  | c :: l => if amtB c.v = true then cpsS (IntKind.i64.wrap (s + c.v)) r l else cpsS s false l
theorem dec_size : (List.range 32).all (fun n => decide ((decS n).size ≤ 20)) = true := by kernel_rfl
theorem itoa_all : (List.range 32).all (fun n => sameS (strOf (dcall E 900 96 [.int .i64 n] [])) (some (decS n))) = true := by kernel_rfl
theorem itoa_c {i : Nat} (hi : i < 32) (st : Bool) (S : List Ob) : callD E (dcall E 900) st S 96 [.int .i64 i] = some (.str (decS i), S) := by
  obtain ⟨s, h1, h2⟩ := sameS_spec (List.all_eq_true.1 itoa_all i (List.mem_range.2 hi))
  obtain ⟨T, e⟩ := strOf_spec h1
  rw [Option.some.inj h2]
  exact callD_pure rfl rfl e rfl
theorem cpn_pure (cs : List Cpn) : pureLL (cs.map Cpn.enc) = true := by
  induction cs with
  | nil => rfl
  | cons c cs ih => rw [List.map_cons, pureLL_cons, ih]; rfl
set_option maxHeartbeats 400000 in
set_option maxRecDepth 100000 in
theorem first_c {n : Nat} (hn : 1 ≤ n) {cs : List Cpn} {x : Bool} (hc : cs.length ≤ 1000) (st : Bool) (S : List Ob) : callD E (dcall E n) st S 193 [.sl 11 (cs.map Cpn.enc) x] = some (.sl 11 (cs.map Cpn.enc) x, S) := by
  obtain ⟨m, rfl⟩ : ∃ m, n = m + 1 := ⟨n - 1, by omega⟩
  have hp := cpn_pure cs
  have hlen : (cs.map Cpn.enc).length = cs.length := by simp
  have hm : ¬ (1024 : Int) < cs.length := by omega
  have : WO (dcall E (m + 1) 193 [.sl 11 (cs.map Cpn.enc) x] []) fun d T => d = .sl 11 (cs.map Cpn.enc) x ∧ T = [] := by
    refine wo_dcall Tryd.func193 rfl (by decide) rfl 8 rfl (fun a hal ha => ?_)
    have h0 : a[0]? = some (.sl 11 (cs.map Cpn.enc) x) := ha 0 (by simp)
    clear ha hp
    have ht : (cs.map Cpn.enc).take cs.length = cs.map Cpn.enc := by rw [← hlen, List.take_length]
    generalize cs.map Cpn.enc = es at *
    simp (maxSteps := 1000000) (disch := omega) only [push_cast, ↓wc_seq, ↓wc_block, ↓wc_scope, ↓wc_condL, ↓wc_region, ↓wr_cons, ↓wr_consgL, ↓wr_nil, ↓wo_pickL, ↓wo_callf, ↓wc_exit, ↓wc_ret, ↓wc_skip, ↓wc_wl, wo_some, wo_none, wo_ite, opQ_eq, seqQ_normal, seqQ_exit, seqQ_ret, blockQ_normal, blockQ_exit, blockQ_ret, iterQ_normal, iterQ_exit, iterQ_ret, retQ_normal, retQ_ret, retQ_exit, pickC_true, pickC_false, pickO_true, pickO_false, gstep_tt, gstep_ff, gstep_tf, gstep_ft, gstep_skip, int_bne, int_beq, decide_not, Nat.reduceAdd, Nat.reduceMul, Nat.reduceSub, Nat.reducePow, Nat.reduceLT, Nat.reduceLeDiff, Nat.reduceEqDiff, Int.reduceToNat, Int.reduceAdd, Int.reduceSub, Int.reduceNeg, Int.reduceMul, Int.reduceLT, Int.reduceLE, Int.reduceEq, le_max, ↓wo_build, ↓wo_buildSlice, evParts, ↓reduceIte, planIds, hasExt, cntFs, idxFs, clnFs, ovlFs, List.contains_cons, List.contains_nil, List.any_cons, List.any_nil, Nat.reduceBEq, setC, List.length_set, decide_eq_true_eq, decide_eq_false_iff_not, true_implies, false_implies, forall_const, reduceCtorEq, eq_self, Int.natCast_nonneg, Int.toNat_natCast, Int.ofNat_lt, D.int.injEq, Option.some.injEq, Nat.zero_add, Nat.add_zero, bne_iff_ne, bne_eq_false_iff_eq, beq_iff_eq, beq_eq_false_iff_ne, gt_iff_lt, ne_eq, not_true_eq_false, not_false_eq_true, planIds, hasExt, cntFs, idxFs, clnFs, ovlFs, List.contains_cons, List.contains_nil, List.any_cons, List.any_nil, Nat.reduceBEq, Nat.reduceMul, Nat.reduceAdd, ↓reduceIte, hal, h0, hlen, hm, ht, Nat.le_refl, Nat.zero_le, Nat.sub_zero, Tryd.f193]
  exact callD_pure rfl (by simpa [pureL, D.pure] using hp) (eq_of_wo this) (freeze_pure (by simpa [D.pure] using hp))
set_option maxHeartbeats 2000000 in
set_option maxRecDepth 100000 in
theorem coupons_d {bd : Nat} {cs : List Cpn} {x : Bool} {o : Nat} {S : List Ob} {fs : List (Int × ByteArray)} (h : CellB bd S o fs) (hl : fs.length ≤ 100) (hc : cs.length ≤ 20) :
    WO (dcall E 901 138 [.loc o 0 0, .sl 11 (cs.map Cpn.enc) x] S) fun d T => d = .tup [.int .i64 (cpsS 0 true cs).1, .bool (cpsS 0 true cs).2] ∧ CellB bd T o (fs ++ (if cs.length < 1 ∨ 6 < cs.length then [(4, ByteArray.mk #[99, 111, 117, 112, 111, 110, 115])] else []) ++ cpsF 0 cs) ∧ Keep2 bd o S T := by
  obtain ⟨B, hB⟩ : ∃ B, decide (cs.length < 1 ∨ 6 < cs.length) = B := ⟨_, rfl⟩
  obtain ⟨T1, a1, c1, k1, -⟩ := fadd_c (n := 900) (by omega) (b := B) (e := 4) (s := ByteArray.mk #[99, 111, 117, 112, 111, 110, 115]) h (by omega)
  have hfs : (fs ++ if B = true then [((4 : Int), ByteArray.mk #[99, 111, 117, 112, 111, 110, 115])] else []) = fs ++ (if cs.length < 1 ∨ 6 < cs.length then [(4, ByteArray.mk #[99, 111, 117, 112, 111, 110, 115])] else []) := by
    rw [← hB]; simp
  rw [← hfs]
  refine wo_dcall Tryd.func138 rfl (by decide) rfl 65 rfl (fun a hal ha => ?_)
  have h0 : a[0]? = some (.loc o 0 0) := ha 0 (by simp)
  have h1 : a[1]? = some (.sl 11 (cs.map Cpn.enc) x) := ha 1 (by simp)
  clear ha
  have fc := first_c (n := 900) (by omega) (cs := cs) (x := x) (by omega)
  by_cases z1 : (cs.length : Int) < 1
  · have hb : B = true := by rw [← hB]; exact decide_eq_true (.inl (by omega))
    rw [hb] at a1
    simp (maxSteps := 1000000) (disch := omega) only [push_cast, ↓wc_seq, ↓wc_block, ↓wc_scope, ↓wc_condL, ↓wc_region, ↓wr_cons, ↓wr_consgL, ↓wr_nil, ↓wo_pickL, ↓wo_callf, ↓wc_exit, ↓wc_ret, ↓wc_skip, ↓wc_wl, wo_some, wo_none, wo_ite, opQ_eq, seqQ_normal, seqQ_exit, seqQ_ret, blockQ_normal, blockQ_exit, blockQ_ret, iterQ_normal, iterQ_exit, iterQ_ret, retQ_normal, retQ_ret, retQ_exit, pickC_true, pickC_false, pickO_true, pickO_false, gstep_tt, gstep_ff, gstep_tf, gstep_ft, gstep_skip, int_bne, int_beq, decide_not, Nat.reduceAdd, Nat.reduceMul, Nat.reduceSub, Nat.reducePow, Nat.reduceLT, Nat.reduceLeDiff, Nat.reduceEqDiff, Int.reduceToNat, Int.reduceAdd, Int.reduceSub, Int.reduceNeg, Int.reduceMul, Int.reduceLT, Int.reduceLE, Int.reduceEq, le_max, ↓wo_build, ↓wo_buildSlice, evParts, ↓reduceIte, planIds, hasExt, cntFs, idxFs, clnFs, ovlFs, List.contains_cons, List.contains_nil, List.any_cons, List.any_nil, Nat.reduceBEq, setC, List.length_set, decide_eq_true_eq, decide_eq_false_iff_not, true_implies, false_implies, forall_const, reduceCtorEq, eq_self, Int.natCast_nonneg, Int.toNat_natCast, Int.ofNat_lt, D.int.injEq, Option.some.injEq, Nat.zero_add, Nat.add_zero, bne_iff_ne, bne_eq_false_iff_eq, beq_iff_eq, beq_eq_false_iff_ne, gt_iff_lt, ne_eq, not_true_eq_false, not_false_eq_true, planIds, hasExt, cntFs, idxFs, clnFs, ovlFs, List.contains_cons, List.contains_nil, List.any_cons, List.any_nil, Nat.reduceBEq, Nat.reduceMul, Nat.reduceAdd, ↓reduceIte, hal, h0, h1, z1, a1, fc, List.length_map]
    refine wl_loop (fun i a T => a.length = 65 ∧ a[0]? = some (.loc o 0 0) ∧ a[22]? = some (.sl 11 (cs.map Cpn.enc) x) ∧ a[23]? = some (.int .i64 cs.length) ∧ a[24]? = some (.int .i64 i) ∧ Keep2 bd o S T ∧ ∃ s r gs, a[6]? = some (.int .i64 s) ∧ a[7]? = some (.bool r) ∧ cpsS 0 true cs = cpsS s r (cs.drop i) ∧ CellB bd T o gs ∧ (fs ++ if B = true then [((4 : Int), ByteArray.mk #[99, 111, 117, 112, 111, 110, 115])] else []) ++ cpsF 0 cs = gs ++ cpsF i (cs.drop i) ∧ gs.length ≤ 101 + 3 * i) cs.length ?_ (by omega) ?_
    · simp (maxSteps := 1000000) (disch := omega) only [push_cast, ↓wc_seq, ↓wc_block, ↓wc_scope, ↓wc_condL, ↓wc_region, ↓wr_cons, ↓wr_consgL, ↓wr_nil, ↓wo_pickL, ↓wo_callf, ↓wc_exit, ↓wc_ret, ↓wc_skip, ↓wc_wl, wo_some, wo_none, wo_ite, opQ_eq, seqQ_normal, seqQ_exit, seqQ_ret, blockQ_normal, blockQ_exit, blockQ_ret, iterQ_normal, iterQ_exit, iterQ_ret, retQ_normal, retQ_ret, retQ_exit, pickC_true, pickC_false, pickO_true, pickO_false, gstep_tt, gstep_ff, gstep_tf, gstep_ft, gstep_skip, int_bne, int_beq, decide_not, Nat.reduceAdd, Nat.reduceMul, Nat.reduceSub, Nat.reducePow, Nat.reduceLT, Nat.reduceLeDiff, Nat.reduceEqDiff, Int.reduceToNat, Int.reduceAdd, Int.reduceSub, Int.reduceNeg, Int.reduceMul, Int.reduceLT, Int.reduceLE, Int.reduceEq, le_max, ↓wo_build, ↓wo_buildSlice, evParts, ↓reduceIte, planIds, hasExt, cntFs, idxFs, clnFs, ovlFs, List.contains_cons, List.contains_nil, List.any_cons, List.any_nil, Nat.reduceBEq, setC, List.length_set, decide_eq_true_eq, decide_eq_false_iff_not, true_implies, false_implies, forall_const, reduceCtorEq, eq_self, Int.natCast_nonneg, Int.toNat_natCast, Int.ofNat_lt, D.int.injEq, Option.some.injEq, Nat.zero_add, Nat.add_zero, bne_iff_ne, bne_eq_false_iff_eq, beq_iff_eq, beq_eq_false_iff_ne, gt_iff_lt, ne_eq, not_true_eq_false, not_false_eq_true, planIds, hasExt, cntFs, idxFs, clnFs, ovlFs, List.contains_cons, List.contains_nil, List.any_cons, List.any_nil, Nat.reduceBEq, Nat.reduceMul, Nat.reduceAdd, ↓reduceIte, hal, h0, h1, List.length_map, Int.natCast_zero]
      exact ⟨k1, 0, true, _, rfl, rfl, rfl, c1, rfl, by rw [List.length_append]; split <;> simp <;> omega⟩
    · clear hal h0 h1 a1
      rintro i a T hi ⟨hal, h0, h22, h23, h24, kT, sm, r, gs, h6, h7, hv, hcell, hg, hgl⟩
      rcases Nat.lt_or_eq_of_le hi with hlt | rfl
      · obtain ⟨c, hc'⟩ : ∃ c, cs[i]? = some c := ⟨cs[i], by simp [hlt]⟩
        rw [drop_at hc', cpsS] at hv
        rw [drop_at hc', cpsF] at hg
        have hoT : o < T.length := by
          obtain ⟨-, d, hd, -⟩ := hcell
          exact (List.getElem?_eq_some_iff.1 hd).1
        obtain ⟨T2, a2, c2, k2, -⟩ := fadd_c (n := 900) (by omega) (b := badSt c) (e := 8) (s := ByteArray.mk #[99, 111, 117, 112, 111, 110, 115, 46] ++ decS i) (hcell.push (.row 11 [c.enc])) (by omega)
        obtain ⟨T3, a3, c3, k3, -⟩ := fadd_c (n := 900) (by omega) (b := !clsB c.w8) (e := 16) (s := ByteArray.mk #[99, 111, 117, 112, 111, 110, 115, 46] ++ decS i) c2 (by rw [List.length_append]; split <;> simp <;> omega)
        obtain ⟨T4, a4, c4, k4, -⟩ := fadd_c (n := 900) (by omega) (b := !amtB c.v) (e := 11) (s := ByteArray.mk #[99, 111, 117, 112, 111, 110, 115, 46] ++ decS i) c3 (by rw [List.length_append, List.length_append]; split <;> split <;> simp <;> omega)
        have r2 := k2.1 T.length 11 [c.enc] (by decide) (by omega) get_end
        have r3 := k3.1 T.length 11 [c.enc] (by decide) (by omega) r2
        have r4 := k4.1 T.length 11 [c.enc] (by decide) (by omega) r3
        have kk : Keep2 bd o S T4 := (((kT.push _).trans k2).trans k3).trans k4
        have hcp : cpF i c = (if badSt c = true then [(8, atC i)] else []) ++ (if (!clsB c.w8) = true then [(16, atC i)] else []) ++ if (!amtB c.v) = true then [(11, atC i)] else [] := rfl
        have hfin : (fs ++ if B = true then [((4 : Int), ByteArray.mk #[99, 111, 117, 112, 111, 110, 115])] else []) ++ cpsF 0 cs = (((gs ++ if badSt c = true then [((8 : Int), ByteArray.mk #[99, 111, 117, 112, 111, 110, 115, 46] ++ decS i)] else []) ++ if (!clsB c.w8) = true then [((16 : Int), ByteArray.mk #[99, 111, 117, 112, 111, 110, 115, 46] ++ decS i)] else []) ++ if (!amtB c.v) = true then [((11 : Int), ByteArray.mk #[99, 111, 117, 112, 111, 110, 115, 46] ++ decS i)] else []) ++ cpsF (i + 1) (cs.drop (i + 1)) := by
          rw [hg, hcp]
          simp only [List.append_assoc]
          rfl
        have hlen4 : (((gs ++ if badSt c = true then [((8 : Int), ByteArray.mk #[99, 111, 117, 112, 111, 110, 115, 46] ++ decS i)] else []) ++ if (!clsB c.w8) = true then [((16 : Int), ByteArray.mk #[99, 111, 117, 112, 111, 110, 115, 46] ++ decS i)] else []) ++ if (!amtB c.v) = true then [((11 : Int), ByteArray.mk #[99, 111, 117, 112, 111, 110, 115, 46] ++ decS i)] else []).length ≤ 101 + 3 * (i + 1) := by
          rw [List.length_append, List.length_append, List.length_append]
          split <;> split <;> split <;> simp <;> omega
        have am := amount_c (n := 900) (by omega) c.v
        have cl := class_c (n := 900) (by omega) c.w8
        have it := fun st S => itoa_c (i := i) (by omega) st S
        have hds : (decS i).size ≤ 20 := by simpa using List.all_eq_true.1 dec_size i (List.mem_range.2 (by omega))
        have hmx : ¬ IntKind.i64.max < ((ByteArray.mk #[99, 111, 117, 112, 111, 110, 115, 46]).size : Int) + ((decS i).size : Int) := by
          show ¬ (9223372036854775807 : Int) < ((8 : Nat) : Int) + ((decS i).size : Int)
          omega
        generalize decS i = ds at *
        simp only [Cpn.enc] at a2 r2 r3 r4
        by_cases b1 : c.st < 1 <;> by_cases b2 : 8 < c.st <;> cases hA : amtB c.v <;>
        · have hbad : badSt c = (decide (c.st < 1) || decide (8 < c.st)) := rfl
          simp only [hbad, b1, b2, decide_true, decide_false, Bool.or_true, Bool.or_false, Bool.true_or] at a2
          simp only [hA, Bool.not_true, Bool.not_false] at a4
          simp only [hA, Bool.false_eq_true, if_true, if_false] at hv
          simp (maxSteps := 1000000) (disch := omega) only [push_cast, ↓wc_seq, ↓wc_block, ↓wc_scope, ↓wc_condL, ↓wc_region, ↓wr_cons, ↓wr_consgL, ↓wr_nil, ↓wo_pickL, ↓wo_callf, ↓wc_exit, ↓wc_ret, ↓wc_skip, ↓wc_wl, wo_some, wo_none, wo_ite, opQ_eq, seqQ_normal, seqQ_exit, seqQ_ret, blockQ_normal, blockQ_exit, blockQ_ret, iterQ_normal, iterQ_exit, iterQ_ret, retQ_normal, retQ_ret, retQ_exit, pickC_true, pickC_false, pickO_true, pickO_false, gstep_tt, gstep_ff, gstep_tf, gstep_ft, gstep_skip, int_bne, int_beq, decide_not, Nat.reduceAdd, Nat.reduceMul, Nat.reduceSub, Nat.reducePow, Nat.reduceLT, Nat.reduceLeDiff, Nat.reduceEqDiff, Int.reduceToNat, Int.reduceAdd, Int.reduceSub, Int.reduceNeg, Int.reduceMul, Int.reduceLT, Int.reduceLE, Int.reduceEq, le_max, ↓wo_build, ↓wo_buildSlice, evParts, ↓reduceIte, planIds, hasExt, cntFs, idxFs, clnFs, ovlFs, List.contains_cons, List.contains_nil, List.any_cons, List.any_nil, Nat.reduceBEq, setC, List.length_set, decide_eq_true_eq, decide_eq_false_iff_not, true_implies, false_implies, forall_const, reduceCtorEq, eq_self, Int.natCast_nonneg, Int.toNat_natCast, Int.ofNat_lt, D.int.injEq, Option.some.injEq, Nat.zero_add, Nat.add_zero, bne_iff_ne, bne_eq_false_iff_eq, beq_iff_eq, beq_eq_false_iff_ne, gt_iff_lt, ne_eq, not_true_eq_false, not_false_eq_true, planIds, hasExt, cntFs, idxFs, clnFs, ovlFs, List.contains_cons, List.contains_nil, List.any_cons, List.any_nil, Nat.reduceBEq, Nat.reduceMul, Nat.reduceAdd, ↓reduceIte, hal, h0, h6, h7, h22, h23, h24, hlt, hc', Cpn.enc, List.getElem?_map, set_last, get_last, it, hmx, b1, b2, a2, a3, a4, am, cl, hA, r2, r3, r4, dUn, wrap_ok, Int.natCast_add, Int.natCast_one]
          first
          | (exfalso; omega)
          | exact ⟨kk, _, _, _, rfl, rfl, hv, c4, hfin, hlen4⟩
      · rw [List.drop_length] at hv hg
        simp (maxSteps := 1000000) (disch := omega) only [push_cast, ↓wc_seq, ↓wc_block, ↓wc_scope, ↓wc_condL, ↓wc_region, ↓wr_cons, ↓wr_consgL, ↓wr_nil, ↓wo_pickL, ↓wo_callf, ↓wc_exit, ↓wc_ret, ↓wc_skip, ↓wc_wl, wo_some, wo_none, wo_ite, opQ_eq, seqQ_normal, seqQ_exit, seqQ_ret, blockQ_normal, blockQ_exit, blockQ_ret, iterQ_normal, iterQ_exit, iterQ_ret, retQ_normal, retQ_ret, retQ_exit, pickC_true, pickC_false, pickO_true, pickO_false, gstep_tt, gstep_ff, gstep_tf, gstep_ft, gstep_skip, int_bne, int_beq, decide_not, Nat.reduceAdd, Nat.reduceMul, Nat.reduceSub, Nat.reducePow, Nat.reduceLT, Nat.reduceLeDiff, Nat.reduceEqDiff, Int.reduceToNat, Int.reduceAdd, Int.reduceSub, Int.reduceNeg, Int.reduceMul, Int.reduceLT, Int.reduceLE, Int.reduceEq, le_max, ↓wo_build, ↓wo_buildSlice, evParts, ↓reduceIte, planIds, hasExt, cntFs, idxFs, clnFs, ovlFs, List.contains_cons, List.contains_nil, List.any_cons, List.any_nil, Nat.reduceBEq, setC, List.length_set, decide_eq_true_eq, decide_eq_false_iff_not, true_implies, false_implies, forall_const, reduceCtorEq, eq_self, Int.natCast_nonneg, Int.toNat_natCast, Int.ofNat_lt, D.int.injEq, Option.some.injEq, Nat.zero_add, Nat.add_zero, bne_iff_ne, bne_eq_false_iff_eq, beq_iff_eq, beq_eq_false_iff_ne, gt_iff_lt, ne_eq, not_true_eq_false, not_false_eq_true, planIds, hasExt, cntFs, idxFs, clnFs, ovlFs, List.contains_cons, List.contains_nil, List.any_cons, List.any_nil, Nat.reduceBEq, Nat.reduceMul, Nat.reduceAdd, ↓reduceIte, hal, h0, h6, h7, h22, h23, h24, Nat.lt_irrefl, Tryd.f138]
        refine ⟨by rw [hv]; rfl, ?_, kT⟩
        rw [hg, show cpsF cs.length [] = [] from rfl, List.append_nil]
        exact hcell
  · by_cases z2 : (6 : Int) < cs.length
    · have hb : B = true := by rw [← hB]; exact decide_eq_true (.inr (by omega))
      rw [hb] at a1
      simp (maxSteps := 1000000) (disch := omega) only [push_cast, ↓wc_seq, ↓wc_block, ↓wc_scope, ↓wc_condL, ↓wc_region, ↓wr_cons, ↓wr_consgL, ↓wr_nil, ↓wo_pickL, ↓wo_callf, ↓wc_exit, ↓wc_ret, ↓wc_skip, ↓wc_wl, wo_some, wo_none, wo_ite, opQ_eq, seqQ_normal, seqQ_exit, seqQ_ret, blockQ_normal, blockQ_exit, blockQ_ret, iterQ_normal, iterQ_exit, iterQ_ret, retQ_normal, retQ_ret, retQ_exit, pickC_true, pickC_false, pickO_true, pickO_false, gstep_tt, gstep_ff, gstep_tf, gstep_ft, gstep_skip, int_bne, int_beq, decide_not, Nat.reduceAdd, Nat.reduceMul, Nat.reduceSub, Nat.reducePow, Nat.reduceLT, Nat.reduceLeDiff, Nat.reduceEqDiff, Int.reduceToNat, Int.reduceAdd, Int.reduceSub, Int.reduceNeg, Int.reduceMul, Int.reduceLT, Int.reduceLE, Int.reduceEq, le_max, ↓wo_build, ↓wo_buildSlice, evParts, ↓reduceIte, planIds, hasExt, cntFs, idxFs, clnFs, ovlFs, List.contains_cons, List.contains_nil, List.any_cons, List.any_nil, Nat.reduceBEq, setC, List.length_set, decide_eq_true_eq, decide_eq_false_iff_not, true_implies, false_implies, forall_const, reduceCtorEq, eq_self, Int.natCast_nonneg, Int.toNat_natCast, Int.ofNat_lt, D.int.injEq, Option.some.injEq, Nat.zero_add, Nat.add_zero, bne_iff_ne, bne_eq_false_iff_eq, beq_iff_eq, beq_eq_false_iff_ne, gt_iff_lt, ne_eq, not_true_eq_false, not_false_eq_true, planIds, hasExt, cntFs, idxFs, clnFs, ovlFs, List.contains_cons, List.contains_nil, List.any_cons, List.any_nil, Nat.reduceBEq, Nat.reduceMul, Nat.reduceAdd, ↓reduceIte, hal, h0, h1, z1, z2, a1, fc, List.length_map]
      refine wl_loop (fun i a T => a.length = 65 ∧ a[0]? = some (.loc o 0 0) ∧ a[22]? = some (.sl 11 (cs.map Cpn.enc) x) ∧ a[23]? = some (.int .i64 cs.length) ∧ a[24]? = some (.int .i64 i) ∧ Keep2 bd o S T ∧ ∃ s r gs, a[6]? = some (.int .i64 s) ∧ a[7]? = some (.bool r) ∧ cpsS 0 true cs = cpsS s r (cs.drop i) ∧ CellB bd T o gs ∧ (fs ++ if B = true then [((4 : Int), ByteArray.mk #[99, 111, 117, 112, 111, 110, 115])] else []) ++ cpsF 0 cs = gs ++ cpsF i (cs.drop i) ∧ gs.length ≤ 101 + 3 * i) cs.length ?_ (by omega) ?_
      · simp (maxSteps := 1000000) (disch := omega) only [push_cast, ↓wc_seq, ↓wc_block, ↓wc_scope, ↓wc_condL, ↓wc_region, ↓wr_cons, ↓wr_consgL, ↓wr_nil, ↓wo_pickL, ↓wo_callf, ↓wc_exit, ↓wc_ret, ↓wc_skip, ↓wc_wl, wo_some, wo_none, wo_ite, opQ_eq, seqQ_normal, seqQ_exit, seqQ_ret, blockQ_normal, blockQ_exit, blockQ_ret, iterQ_normal, iterQ_exit, iterQ_ret, retQ_normal, retQ_ret, retQ_exit, pickC_true, pickC_false, pickO_true, pickO_false, gstep_tt, gstep_ff, gstep_tf, gstep_ft, gstep_skip, int_bne, int_beq, decide_not, Nat.reduceAdd, Nat.reduceMul, Nat.reduceSub, Nat.reducePow, Nat.reduceLT, Nat.reduceLeDiff, Nat.reduceEqDiff, Int.reduceToNat, Int.reduceAdd, Int.reduceSub, Int.reduceNeg, Int.reduceMul, Int.reduceLT, Int.reduceLE, Int.reduceEq, le_max, ↓wo_build, ↓wo_buildSlice, evParts, ↓reduceIte, planIds, hasExt, cntFs, idxFs, clnFs, ovlFs, List.contains_cons, List.contains_nil, List.any_cons, List.any_nil, Nat.reduceBEq, setC, List.length_set, decide_eq_true_eq, decide_eq_false_iff_not, true_implies, false_implies, forall_const, reduceCtorEq, eq_self, Int.natCast_nonneg, Int.toNat_natCast, Int.ofNat_lt, D.int.injEq, Option.some.injEq, Nat.zero_add, Nat.add_zero, bne_iff_ne, bne_eq_false_iff_eq, beq_iff_eq, beq_eq_false_iff_ne, gt_iff_lt, ne_eq, not_true_eq_false, not_false_eq_true, planIds, hasExt, cntFs, idxFs, clnFs, ovlFs, List.contains_cons, List.contains_nil, List.any_cons, List.any_nil, Nat.reduceBEq, Nat.reduceMul, Nat.reduceAdd, ↓reduceIte, hal, h0, h1, List.length_map, Int.natCast_zero]
        exact ⟨k1, 0, true, _, rfl, rfl, rfl, c1, rfl, by rw [List.length_append]; split <;> simp <;> omega⟩
      · clear hal h0 h1 a1
        rintro i a T hi ⟨hal, h0, h22, h23, h24, kT, sm, r, gs, h6, h7, hv, hcell, hg, hgl⟩
        rcases Nat.lt_or_eq_of_le hi with hlt | rfl
        · obtain ⟨c, hc'⟩ : ∃ c, cs[i]? = some c := ⟨cs[i], by simp [hlt]⟩
          rw [drop_at hc', cpsS] at hv
          rw [drop_at hc', cpsF] at hg
          have hoT : o < T.length := by
            obtain ⟨-, d, hd, -⟩ := hcell
            exact (List.getElem?_eq_some_iff.1 hd).1
          obtain ⟨T2, a2, c2, k2, -⟩ := fadd_c (n := 900) (by omega) (b := badSt c) (e := 8) (s := ByteArray.mk #[99, 111, 117, 112, 111, 110, 115, 46] ++ decS i) (hcell.push (.row 11 [c.enc])) (by omega)
          obtain ⟨T3, a3, c3, k3, -⟩ := fadd_c (n := 900) (by omega) (b := !clsB c.w8) (e := 16) (s := ByteArray.mk #[99, 111, 117, 112, 111, 110, 115, 46] ++ decS i) c2 (by rw [List.length_append]; split <;> simp <;> omega)
          obtain ⟨T4, a4, c4, k4, -⟩ := fadd_c (n := 900) (by omega) (b := !amtB c.v) (e := 11) (s := ByteArray.mk #[99, 111, 117, 112, 111, 110, 115, 46] ++ decS i) c3 (by rw [List.length_append, List.length_append]; split <;> split <;> simp <;> omega)
          have r2 := k2.1 T.length 11 [c.enc] (by decide) (by omega) get_end
          have r3 := k3.1 T.length 11 [c.enc] (by decide) (by omega) r2
          have r4 := k4.1 T.length 11 [c.enc] (by decide) (by omega) r3
          have kk : Keep2 bd o S T4 := (((kT.push _).trans k2).trans k3).trans k4
          have hcp : cpF i c = (if badSt c = true then [(8, atC i)] else []) ++ (if (!clsB c.w8) = true then [(16, atC i)] else []) ++ if (!amtB c.v) = true then [(11, atC i)] else [] := rfl
          have hfin : (fs ++ if B = true then [((4 : Int), ByteArray.mk #[99, 111, 117, 112, 111, 110, 115])] else []) ++ cpsF 0 cs = (((gs ++ if badSt c = true then [((8 : Int), ByteArray.mk #[99, 111, 117, 112, 111, 110, 115, 46] ++ decS i)] else []) ++ if (!clsB c.w8) = true then [((16 : Int), ByteArray.mk #[99, 111, 117, 112, 111, 110, 115, 46] ++ decS i)] else []) ++ if (!amtB c.v) = true then [((11 : Int), ByteArray.mk #[99, 111, 117, 112, 111, 110, 115, 46] ++ decS i)] else []) ++ cpsF (i + 1) (cs.drop (i + 1)) := by
            rw [hg, hcp]
            simp only [List.append_assoc]
            rfl
          have hlen4 : (((gs ++ if badSt c = true then [((8 : Int), ByteArray.mk #[99, 111, 117, 112, 111, 110, 115, 46] ++ decS i)] else []) ++ if (!clsB c.w8) = true then [((16 : Int), ByteArray.mk #[99, 111, 117, 112, 111, 110, 115, 46] ++ decS i)] else []) ++ if (!amtB c.v) = true then [((11 : Int), ByteArray.mk #[99, 111, 117, 112, 111, 110, 115, 46] ++ decS i)] else []).length ≤ 101 + 3 * (i + 1) := by
            rw [List.length_append, List.length_append, List.length_append]
            split <;> split <;> split <;> simp <;> omega
          have am := amount_c (n := 900) (by omega) c.v
          have cl := class_c (n := 900) (by omega) c.w8
          have it := fun st S => itoa_c (i := i) (by omega) st S
          have hds : (decS i).size ≤ 20 := by simpa using List.all_eq_true.1 dec_size i (List.mem_range.2 (by omega))
          have hmx : ¬ IntKind.i64.max < ((ByteArray.mk #[99, 111, 117, 112, 111, 110, 115, 46]).size : Int) + ((decS i).size : Int) := by
            show ¬ (9223372036854775807 : Int) < ((8 : Nat) : Int) + ((decS i).size : Int)
            omega
          generalize decS i = ds at *
          simp only [Cpn.enc] at a2 r2 r3 r4
          by_cases b1 : c.st < 1 <;> by_cases b2 : 8 < c.st <;> cases hA : amtB c.v <;>
          · have hbad : badSt c = (decide (c.st < 1) || decide (8 < c.st)) := rfl
            simp only [hbad, b1, b2, decide_true, decide_false, Bool.or_true, Bool.or_false, Bool.true_or] at a2
            simp only [hA, Bool.not_true, Bool.not_false] at a4
            simp only [hA, Bool.false_eq_true, if_true, if_false] at hv
            simp (maxSteps := 1000000) (disch := omega) only [push_cast, ↓wc_seq, ↓wc_block, ↓wc_scope, ↓wc_condL, ↓wc_region, ↓wr_cons, ↓wr_consgL, ↓wr_nil, ↓wo_pickL, ↓wo_callf, ↓wc_exit, ↓wc_ret, ↓wc_skip, ↓wc_wl, wo_some, wo_none, wo_ite, opQ_eq, seqQ_normal, seqQ_exit, seqQ_ret, blockQ_normal, blockQ_exit, blockQ_ret, iterQ_normal, iterQ_exit, iterQ_ret, retQ_normal, retQ_ret, retQ_exit, pickC_true, pickC_false, pickO_true, pickO_false, gstep_tt, gstep_ff, gstep_tf, gstep_ft, gstep_skip, int_bne, int_beq, decide_not, Nat.reduceAdd, Nat.reduceMul, Nat.reduceSub, Nat.reducePow, Nat.reduceLT, Nat.reduceLeDiff, Nat.reduceEqDiff, Int.reduceToNat, Int.reduceAdd, Int.reduceSub, Int.reduceNeg, Int.reduceMul, Int.reduceLT, Int.reduceLE, Int.reduceEq, le_max, ↓wo_build, ↓wo_buildSlice, evParts, ↓reduceIte, planIds, hasExt, cntFs, idxFs, clnFs, ovlFs, List.contains_cons, List.contains_nil, List.any_cons, List.any_nil, Nat.reduceBEq, setC, List.length_set, decide_eq_true_eq, decide_eq_false_iff_not, true_implies, false_implies, forall_const, reduceCtorEq, eq_self, Int.natCast_nonneg, Int.toNat_natCast, Int.ofNat_lt, D.int.injEq, Option.some.injEq, Nat.zero_add, Nat.add_zero, bne_iff_ne, bne_eq_false_iff_eq, beq_iff_eq, beq_eq_false_iff_ne, gt_iff_lt, ne_eq, not_true_eq_false, not_false_eq_true, planIds, hasExt, cntFs, idxFs, clnFs, ovlFs, List.contains_cons, List.contains_nil, List.any_cons, List.any_nil, Nat.reduceBEq, Nat.reduceMul, Nat.reduceAdd, ↓reduceIte, hal, h0, h6, h7, h22, h23, h24, hlt, hc', Cpn.enc, List.getElem?_map, set_last, get_last, it, hmx, b1, b2, a2, a3, a4, am, cl, hA, r2, r3, r4, dUn, wrap_ok, Int.natCast_add, Int.natCast_one]
            first
            | (exfalso; omega)
            | exact ⟨kk, _, _, _, rfl, rfl, hv, c4, hfin, hlen4⟩
        · rw [List.drop_length] at hv hg
          simp (maxSteps := 1000000) (disch := omega) only [push_cast, ↓wc_seq, ↓wc_block, ↓wc_scope, ↓wc_condL, ↓wc_region, ↓wr_cons, ↓wr_consgL, ↓wr_nil, ↓wo_pickL, ↓wo_callf, ↓wc_exit, ↓wc_ret, ↓wc_skip, ↓wc_wl, wo_some, wo_none, wo_ite, opQ_eq, seqQ_normal, seqQ_exit, seqQ_ret, blockQ_normal, blockQ_exit, blockQ_ret, iterQ_normal, iterQ_exit, iterQ_ret, retQ_normal, retQ_ret, retQ_exit, pickC_true, pickC_false, pickO_true, pickO_false, gstep_tt, gstep_ff, gstep_tf, gstep_ft, gstep_skip, int_bne, int_beq, decide_not, Nat.reduceAdd, Nat.reduceMul, Nat.reduceSub, Nat.reducePow, Nat.reduceLT, Nat.reduceLeDiff, Nat.reduceEqDiff, Int.reduceToNat, Int.reduceAdd, Int.reduceSub, Int.reduceNeg, Int.reduceMul, Int.reduceLT, Int.reduceLE, Int.reduceEq, le_max, ↓wo_build, ↓wo_buildSlice, evParts, ↓reduceIte, planIds, hasExt, cntFs, idxFs, clnFs, ovlFs, List.contains_cons, List.contains_nil, List.any_cons, List.any_nil, Nat.reduceBEq, setC, List.length_set, decide_eq_true_eq, decide_eq_false_iff_not, true_implies, false_implies, forall_const, reduceCtorEq, eq_self, Int.natCast_nonneg, Int.toNat_natCast, Int.ofNat_lt, D.int.injEq, Option.some.injEq, Nat.zero_add, Nat.add_zero, bne_iff_ne, bne_eq_false_iff_eq, beq_iff_eq, beq_eq_false_iff_ne, gt_iff_lt, ne_eq, not_true_eq_false, not_false_eq_true, planIds, hasExt, cntFs, idxFs, clnFs, ovlFs, List.contains_cons, List.contains_nil, List.any_cons, List.any_nil, Nat.reduceBEq, Nat.reduceMul, Nat.reduceAdd, ↓reduceIte, hal, h0, h6, h7, h22, h23, h24, Nat.lt_irrefl, Tryd.f138]
          refine ⟨by rw [hv]; rfl, ?_, kT⟩
          rw [hg, show cpsF cs.length [] = [] from rfl, List.append_nil]
          exact hcell
    · have hb : B = false := by rw [← hB]; exact decide_eq_false (by omega)
      rw [hb] at a1
      simp (maxSteps := 1000000) (disch := omega) only [push_cast, ↓wc_seq, ↓wc_block, ↓wc_scope, ↓wc_condL, ↓wc_region, ↓wr_cons, ↓wr_consgL, ↓wr_nil, ↓wo_pickL, ↓wo_callf, ↓wc_exit, ↓wc_ret, ↓wc_skip, ↓wc_wl, wo_some, wo_none, wo_ite, opQ_eq, seqQ_normal, seqQ_exit, seqQ_ret, blockQ_normal, blockQ_exit, blockQ_ret, iterQ_normal, iterQ_exit, iterQ_ret, retQ_normal, retQ_ret, retQ_exit, pickC_true, pickC_false, pickO_true, pickO_false, gstep_tt, gstep_ff, gstep_tf, gstep_ft, gstep_skip, int_bne, int_beq, decide_not, Nat.reduceAdd, Nat.reduceMul, Nat.reduceSub, Nat.reducePow, Nat.reduceLT, Nat.reduceLeDiff, Nat.reduceEqDiff, Int.reduceToNat, Int.reduceAdd, Int.reduceSub, Int.reduceNeg, Int.reduceMul, Int.reduceLT, Int.reduceLE, Int.reduceEq, le_max, ↓wo_build, ↓wo_buildSlice, evParts, ↓reduceIte, planIds, hasExt, cntFs, idxFs, clnFs, ovlFs, List.contains_cons, List.contains_nil, List.any_cons, List.any_nil, Nat.reduceBEq, setC, List.length_set, decide_eq_true_eq, decide_eq_false_iff_not, true_implies, false_implies, forall_const, reduceCtorEq, eq_self, Int.natCast_nonneg, Int.toNat_natCast, Int.ofNat_lt, D.int.injEq, Option.some.injEq, Nat.zero_add, Nat.add_zero, bne_iff_ne, bne_eq_false_iff_eq, beq_iff_eq, beq_eq_false_iff_ne, gt_iff_lt, ne_eq, not_true_eq_false, not_false_eq_true, planIds, hasExt, cntFs, idxFs, clnFs, ovlFs, List.contains_cons, List.contains_nil, List.any_cons, List.any_nil, Nat.reduceBEq, Nat.reduceMul, Nat.reduceAdd, ↓reduceIte, hal, h0, h1, z1, z2, a1, fc, List.length_map]
      refine wl_loop (fun i a T => a.length = 65 ∧ a[0]? = some (.loc o 0 0) ∧ a[22]? = some (.sl 11 (cs.map Cpn.enc) x) ∧ a[23]? = some (.int .i64 cs.length) ∧ a[24]? = some (.int .i64 i) ∧ Keep2 bd o S T ∧ ∃ s r gs, a[6]? = some (.int .i64 s) ∧ a[7]? = some (.bool r) ∧ cpsS 0 true cs = cpsS s r (cs.drop i) ∧ CellB bd T o gs ∧ (fs ++ if B = true then [((4 : Int), ByteArray.mk #[99, 111, 117, 112, 111, 110, 115])] else []) ++ cpsF 0 cs = gs ++ cpsF i (cs.drop i) ∧ gs.length ≤ 101 + 3 * i) cs.length ?_ (by omega) ?_
      · simp (maxSteps := 1000000) (disch := omega) only [push_cast, ↓wc_seq, ↓wc_block, ↓wc_scope, ↓wc_condL, ↓wc_region, ↓wr_cons, ↓wr_consgL, ↓wr_nil, ↓wo_pickL, ↓wo_callf, ↓wc_exit, ↓wc_ret, ↓wc_skip, ↓wc_wl, wo_some, wo_none, wo_ite, opQ_eq, seqQ_normal, seqQ_exit, seqQ_ret, blockQ_normal, blockQ_exit, blockQ_ret, iterQ_normal, iterQ_exit, iterQ_ret, retQ_normal, retQ_ret, retQ_exit, pickC_true, pickC_false, pickO_true, pickO_false, gstep_tt, gstep_ff, gstep_tf, gstep_ft, gstep_skip, int_bne, int_beq, decide_not, Nat.reduceAdd, Nat.reduceMul, Nat.reduceSub, Nat.reducePow, Nat.reduceLT, Nat.reduceLeDiff, Nat.reduceEqDiff, Int.reduceToNat, Int.reduceAdd, Int.reduceSub, Int.reduceNeg, Int.reduceMul, Int.reduceLT, Int.reduceLE, Int.reduceEq, le_max, ↓wo_build, ↓wo_buildSlice, evParts, ↓reduceIte, planIds, hasExt, cntFs, idxFs, clnFs, ovlFs, List.contains_cons, List.contains_nil, List.any_cons, List.any_nil, Nat.reduceBEq, setC, List.length_set, decide_eq_true_eq, decide_eq_false_iff_not, true_implies, false_implies, forall_const, reduceCtorEq, eq_self, Int.natCast_nonneg, Int.toNat_natCast, Int.ofNat_lt, D.int.injEq, Option.some.injEq, Nat.zero_add, Nat.add_zero, bne_iff_ne, bne_eq_false_iff_eq, beq_iff_eq, beq_eq_false_iff_ne, gt_iff_lt, ne_eq, not_true_eq_false, not_false_eq_true, planIds, hasExt, cntFs, idxFs, clnFs, ovlFs, List.contains_cons, List.contains_nil, List.any_cons, List.any_nil, Nat.reduceBEq, Nat.reduceMul, Nat.reduceAdd, ↓reduceIte, hal, h0, h1, List.length_map, Int.natCast_zero]
        exact ⟨k1, 0, true, _, rfl, rfl, rfl, c1, rfl, by rw [List.length_append]; split <;> simp <;> omega⟩
      · clear hal h0 h1 a1
        rintro i a T hi ⟨hal, h0, h22, h23, h24, kT, sm, r, gs, h6, h7, hv, hcell, hg, hgl⟩
        rcases Nat.lt_or_eq_of_le hi with hlt | rfl
        · obtain ⟨c, hc'⟩ : ∃ c, cs[i]? = some c := ⟨cs[i], by simp [hlt]⟩
          rw [drop_at hc', cpsS] at hv
          rw [drop_at hc', cpsF] at hg
          have hoT : o < T.length := by
            obtain ⟨-, d, hd, -⟩ := hcell
            exact (List.getElem?_eq_some_iff.1 hd).1
          obtain ⟨T2, a2, c2, k2, -⟩ := fadd_c (n := 900) (by omega) (b := badSt c) (e := 8) (s := ByteArray.mk #[99, 111, 117, 112, 111, 110, 115, 46] ++ decS i) (hcell.push (.row 11 [c.enc])) (by omega)
          obtain ⟨T3, a3, c3, k3, -⟩ := fadd_c (n := 900) (by omega) (b := !clsB c.w8) (e := 16) (s := ByteArray.mk #[99, 111, 117, 112, 111, 110, 115, 46] ++ decS i) c2 (by rw [List.length_append]; split <;> simp <;> omega)
          obtain ⟨T4, a4, c4, k4, -⟩ := fadd_c (n := 900) (by omega) (b := !amtB c.v) (e := 11) (s := ByteArray.mk #[99, 111, 117, 112, 111, 110, 115, 46] ++ decS i) c3 (by rw [List.length_append, List.length_append]; split <;> split <;> simp <;> omega)
          have r2 := k2.1 T.length 11 [c.enc] (by decide) (by omega) get_end
          have r3 := k3.1 T.length 11 [c.enc] (by decide) (by omega) r2
          have r4 := k4.1 T.length 11 [c.enc] (by decide) (by omega) r3
          have kk : Keep2 bd o S T4 := (((kT.push _).trans k2).trans k3).trans k4
          have hcp : cpF i c = (if badSt c = true then [(8, atC i)] else []) ++ (if (!clsB c.w8) = true then [(16, atC i)] else []) ++ if (!amtB c.v) = true then [(11, atC i)] else [] := rfl
          have hfin : (fs ++ if B = true then [((4 : Int), ByteArray.mk #[99, 111, 117, 112, 111, 110, 115])] else []) ++ cpsF 0 cs = (((gs ++ if badSt c = true then [((8 : Int), ByteArray.mk #[99, 111, 117, 112, 111, 110, 115, 46] ++ decS i)] else []) ++ if (!clsB c.w8) = true then [((16 : Int), ByteArray.mk #[99, 111, 117, 112, 111, 110, 115, 46] ++ decS i)] else []) ++ if (!amtB c.v) = true then [((11 : Int), ByteArray.mk #[99, 111, 117, 112, 111, 110, 115, 46] ++ decS i)] else []) ++ cpsF (i + 1) (cs.drop (i + 1)) := by
            rw [hg, hcp]
            simp only [List.append_assoc]
            rfl
          have hlen4 : (((gs ++ if badSt c = true then [((8 : Int), ByteArray.mk #[99, 111, 117, 112, 111, 110, 115, 46] ++ decS i)] else []) ++ if (!clsB c.w8) = true then [((16 : Int), ByteArray.mk #[99, 111, 117, 112, 111, 110, 115, 46] ++ decS i)] else []) ++ if (!amtB c.v) = true then [((11 : Int), ByteArray.mk #[99, 111, 117, 112, 111, 110, 115, 46] ++ decS i)] else []).length ≤ 101 + 3 * (i + 1) := by
            rw [List.length_append, List.length_append, List.length_append]
            split <;> split <;> split <;> simp <;> omega
          have am := amount_c (n := 900) (by omega) c.v
          have cl := class_c (n := 900) (by omega) c.w8
          have it := fun st S => itoa_c (i := i) (by omega) st S
          have hds : (decS i).size ≤ 20 := by simpa using List.all_eq_true.1 dec_size i (List.mem_range.2 (by omega))
          have hmx : ¬ IntKind.i64.max < ((ByteArray.mk #[99, 111, 117, 112, 111, 110, 115, 46]).size : Int) + ((decS i).size : Int) := by
            show ¬ (9223372036854775807 : Int) < ((8 : Nat) : Int) + ((decS i).size : Int)
            omega
          generalize decS i = ds at *
          simp only [Cpn.enc] at a2 r2 r3 r4
          by_cases b1 : c.st < 1 <;> by_cases b2 : 8 < c.st <;> cases hA : amtB c.v <;>
          · have hbad : badSt c = (decide (c.st < 1) || decide (8 < c.st)) := rfl
            simp only [hbad, b1, b2, decide_true, decide_false, Bool.or_true, Bool.or_false, Bool.true_or] at a2
            simp only [hA, Bool.not_true, Bool.not_false] at a4
            simp only [hA, Bool.false_eq_true, if_true, if_false] at hv
            simp (maxSteps := 1000000) (disch := omega) only [push_cast, ↓wc_seq, ↓wc_block, ↓wc_scope, ↓wc_condL, ↓wc_region, ↓wr_cons, ↓wr_consgL, ↓wr_nil, ↓wo_pickL, ↓wo_callf, ↓wc_exit, ↓wc_ret, ↓wc_skip, ↓wc_wl, wo_some, wo_none, wo_ite, opQ_eq, seqQ_normal, seqQ_exit, seqQ_ret, blockQ_normal, blockQ_exit, blockQ_ret, iterQ_normal, iterQ_exit, iterQ_ret, retQ_normal, retQ_ret, retQ_exit, pickC_true, pickC_false, pickO_true, pickO_false, gstep_tt, gstep_ff, gstep_tf, gstep_ft, gstep_skip, int_bne, int_beq, decide_not, Nat.reduceAdd, Nat.reduceMul, Nat.reduceSub, Nat.reducePow, Nat.reduceLT, Nat.reduceLeDiff, Nat.reduceEqDiff, Int.reduceToNat, Int.reduceAdd, Int.reduceSub, Int.reduceNeg, Int.reduceMul, Int.reduceLT, Int.reduceLE, Int.reduceEq, le_max, ↓wo_build, ↓wo_buildSlice, evParts, ↓reduceIte, planIds, hasExt, cntFs, idxFs, clnFs, ovlFs, List.contains_cons, List.contains_nil, List.any_cons, List.any_nil, Nat.reduceBEq, setC, List.length_set, decide_eq_true_eq, decide_eq_false_iff_not, true_implies, false_implies, forall_const, reduceCtorEq, eq_self, Int.natCast_nonneg, Int.toNat_natCast, Int.ofNat_lt, D.int.injEq, Option.some.injEq, Nat.zero_add, Nat.add_zero, bne_iff_ne, bne_eq_false_iff_eq, beq_iff_eq, beq_eq_false_iff_ne, gt_iff_lt, ne_eq, not_true_eq_false, not_false_eq_true, planIds, hasExt, cntFs, idxFs, clnFs, ovlFs, List.contains_cons, List.contains_nil, List.any_cons, List.any_nil, Nat.reduceBEq, Nat.reduceMul, Nat.reduceAdd, ↓reduceIte, hal, h0, h6, h7, h22, h23, h24, hlt, hc', Cpn.enc, List.getElem?_map, set_last, get_last, it, hmx, b1, b2, a2, a3, a4, am, cl, hA, r2, r3, r4, dUn, wrap_ok, Int.natCast_add, Int.natCast_one]
            first
            | (exfalso; omega)
            | exact ⟨kk, _, _, _, rfl, rfl, hv, c4, hfin, hlen4⟩
        · rw [List.drop_length] at hv hg
          simp (maxSteps := 1000000) (disch := omega) only [push_cast, ↓wc_seq, ↓wc_block, ↓wc_scope, ↓wc_condL, ↓wc_region, ↓wr_cons, ↓wr_consgL, ↓wr_nil, ↓wo_pickL, ↓wo_callf, ↓wc_exit, ↓wc_ret, ↓wc_skip, ↓wc_wl, wo_some, wo_none, wo_ite, opQ_eq, seqQ_normal, seqQ_exit, seqQ_ret, blockQ_normal, blockQ_exit, blockQ_ret, iterQ_normal, iterQ_exit, iterQ_ret, retQ_normal, retQ_ret, retQ_exit, pickC_true, pickC_false, pickO_true, pickO_false, gstep_tt, gstep_ff, gstep_tf, gstep_ft, gstep_skip, int_bne, int_beq, decide_not, Nat.reduceAdd, Nat.reduceMul, Nat.reduceSub, Nat.reducePow, Nat.reduceLT, Nat.reduceLeDiff, Nat.reduceEqDiff, Int.reduceToNat, Int.reduceAdd, Int.reduceSub, Int.reduceNeg, Int.reduceMul, Int.reduceLT, Int.reduceLE, Int.reduceEq, le_max, ↓wo_build, ↓wo_buildSlice, evParts, ↓reduceIte, planIds, hasExt, cntFs, idxFs, clnFs, ovlFs, List.contains_cons, List.contains_nil, List.any_cons, List.any_nil, Nat.reduceBEq, setC, List.length_set, decide_eq_true_eq, decide_eq_false_iff_not, true_implies, false_implies, forall_const, reduceCtorEq, eq_self, Int.natCast_nonneg, Int.toNat_natCast, Int.ofNat_lt, D.int.injEq, Option.some.injEq, Nat.zero_add, Nat.add_zero, bne_iff_ne, bne_eq_false_iff_eq, beq_iff_eq, beq_eq_false_iff_ne, gt_iff_lt, ne_eq, not_true_eq_false, not_false_eq_true, planIds, hasExt, cntFs, idxFs, clnFs, ovlFs, List.contains_cons, List.contains_nil, List.any_cons, List.any_nil, Nat.reduceBEq, Nat.reduceMul, Nat.reduceAdd, ↓reduceIte, hal, h0, h6, h7, h22, h23, h24, Nat.lt_irrefl, Tryd.f138]
          refine ⟨by rw [hv]; rfl, ?_, kT⟩
          rw [hg, show cpsF cs.length [] = [] from rfl, List.append_nil]
          exact hcell
end Go.Proofs.YteffefjkcappbaaDoor.Dm
