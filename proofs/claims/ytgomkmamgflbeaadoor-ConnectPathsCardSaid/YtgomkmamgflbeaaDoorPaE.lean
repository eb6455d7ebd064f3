/-
  The machine at the order of journeys: the comparison by which they are sorted.
  The machine at the order of journeys: journeys in the store are compared.
  The machine at Paths: the journeys that are found, in order.
  The machine at Paths: the journeys that are found, in order.
-/
import Derived.Test.YtgomkmamgflbeaaDoorPaA
import Derived.Test.YtgomkmamgflbeaaDoorSrF
namespace Go.Proofs.YtgomkmamgflbeaaDoor.Dm
open Go Gw
set_option linter.unusedSimpArgs false

def cmpI (a b : Int) : Int := if a < b then -1 else if b < a then 1 else 0
def cmpL : (_ _ : List Nat) → Int
  | [], [] => 0
  | [], _ :: _ => -1
  | _ :: _, [] => 1
  | a :: x, b :: y => if cmpI a b = 0 then cmpL x y else cmpI a b
def arrAt (segs : List Sgm) (i : Nat) : Int := match segs[i]? with | some s => s.arr | none => 0
def lastArr (segs : List Sgm) (p : List Nat) : Int := match p[p.length - 1]? with | some j => arrAt segs j | none => 0
/-- The comparison of two journeys. -/
def cmpP (segs : List Sgm) (a b : List Nat) : Int :=
  if cmpI (lastArr segs a) (lastArr segs b) ≠ 0 then cmpI (lastArr segs a) (lastArr segs b) else if cmpI a.length b.length ≠ 0 then cmpI a.length b.length else cmpL a b
theorem cmpI_lt {a b : Int} : cmpI a b < 0 ↔ a < b := by
  unfold cmpI
  split
  · simp [*]
  · split <;> simp [*]
theorem cmpI_z {a b : Int} : cmpI a b = 0 ↔ a = b := by
  unfold cmpI
  split
  · simp; omega
  · split
    · simp; omega
    · simp; omega
theorem cmpL_lt : ∀ {a b : List Nat}, cmpL a b < 0 ↔ a < b
  | [], [] => by simp [cmpL]
  | [], _ :: _ => by simp [cmpL]
  | _ :: _, [] => by simp [cmpL]
  | a :: x, b :: y => by
    rw [cmpL, List.cons_lt_cons_iff]
    by_cases h : cmpI (a : Int) b = 0
    · rw [if_pos h, cmpL_lt]
      have := cmpI_z.1 h
      constructor
      · intro h'; exact .inr ⟨by omega, h'⟩
      · rintro (h' | ⟨-, h'⟩)
        · omega
        · exact h'
    · rw [if_neg h, cmpI_lt]
      have hne : ¬ ((a : Int) = b) := fun e => h (cmpI_z.2 e)
      constructor
      · intro h'; exact .inl (by omega)
      · rintro (h' | ⟨h', -⟩)
        · omega
        · omega
/-- One journey comes before another one. -/
def ahd (segs : List Sgm) (a b : List Nat) : Prop := lastArr segs a < lastArr segs b ∨ (lastArr segs a = lastArr segs b ∧ (a.length < b.length ∨ (a.length = b.length ∧ a < b)))
theorem cmpP_lt {segs : List Sgm} {a b : List Nat} : cmpP segs a b < 0 ↔ ahd segs a b := by
  unfold cmpP ahd
  by_cases h1 : cmpI (lastArr segs a) (lastArr segs b) = 0
  · rw [if_neg (by simpa using h1)]
    have e1 := cmpI_z.1 h1
    by_cases h2 : cmpI (a.length : Int) b.length = 0
    · rw [if_neg (by simpa using h2), cmpL_lt]
      have e2 := cmpI_z.1 h2
      constructor
      · intro h; exact .inr ⟨e1, .inr ⟨by omega, h⟩⟩
      · rintro (h | ⟨-, h | ⟨-, h⟩⟩)
        · omega
        · omega
        · exact h
    · rw [if_pos h2, cmpI_lt]
      have e2 : ¬ ((a.length : Int) = b.length) := fun e => h2 (cmpI_z.2 e)
      constructor
      · intro h; exact .inr ⟨e1, .inl (by omega)⟩
      · rintro (h | ⟨-, h | ⟨h, -⟩⟩) <;> omega
  · rw [if_pos h1, cmpI_lt]
    have e1 : ¬ (lastArr segs a = lastArr segs b) := fun e => h1 (cmpI_z.2 e)
    constructor
    · intro h; exact .inl h
    · rintro (h | ⟨h, -⟩) <;> omega
theorem ahd_irrefl {segs : List Sgm} (a : List Nat) : ¬ ahd segs a a := by
  rintro (h | ⟨-, h | ⟨-, h⟩⟩)
  · omega
  · omega
  · exact List.lt_irrefl _ h
theorem ahd_trans {segs : List Sgm} {a b c : List Nat} (h : ahd segs a b) (g : ahd segs b c) : ahd segs a c := by
  rcases h with h | ⟨h, h' | ⟨h', h''⟩⟩ <;> rcases g with g | ⟨g, g' | ⟨g', g''⟩⟩
  · exact .inl (by omega)
  · exact .inl (by omega)
  · exact .inl (by omega)
  · exact .inl (by omega)
  · exact .inr ⟨by omega, .inl (by omega)⟩
  · exact .inr ⟨by omega, .inl (by omega)⟩
  · exact .inl (by omega)
  · exact .inr ⟨by omega, .inl (by omega)⟩
  · exact .inr ⟨by omega, .inr ⟨by omega, List.lt_trans h'' g''⟩⟩
theorem ahd_tri {segs : List Sgm} (a b : List Nat) : ahd segs a b ∨ a = b ∨ ahd segs b a := by
  rcases Int.lt_trichotomy (lastArr segs a) (lastArr segs b) with h | h | h
  · exact .inl (.inl h)
  · rcases Nat.lt_trichotomy a.length b.length with h' | h' | h'
    · exact .inl (.inr ⟨h, .inl h'⟩)
    · by_cases h1 : a < b
      · exact .inl (.inr ⟨h, .inr ⟨h', h1⟩⟩)
      · by_cases h2 : b < a
        · exact .inr (.inr (.inr ⟨h.symm, .inr ⟨h'.symm, h2⟩⟩))
        · exact .inr (.inl (List.le_antisymm (List.not_lt.1 h2) (List.not_lt.1 h1)))
    · exact .inr (.inr (.inr ⟨h.symm, .inl h'⟩))
  · exact .inr (.inr (.inl h))
/-! The comparison on the machine. -/
set_option maxRecDepth 100000 in
theorem nan_c {n : Nat} (hn : 1 ≤ n) (u : Int) (st : Bool) (S : List Ob) : callD E (dcall E n) st S 69 [.int .i64 u] = some (.bool false, S) := by
  obtain ⟨m, rfl⟩ : ∃ m, n = m + 1 := ⟨n - 1, by omega⟩
  have : WO (dcall E (m + 1) 69 [.int .i64 u] []) fun d _ => d = .bool false := by
    refine wo_dcall Tryd.func69 rfl (by decide) rfl 6 rfl (fun a hal ha => ?_)
    have h0 : a[0]? = some (.int .i64 u) := ha 0 (by simp)
    clear ha
    simp (maxSteps := 1000000) (disch := omega) only [push_cast, ↓wc_seq, ↓wc_block, ↓wc_scope, ↓wc_condL, ↓wc_region, ↓wr_cons, ↓wr_consgL, ↓wr_nil, ↓wo_pickL, ↓wo_callf, ↓wc_exit, ↓wc_ret, ↓wc_skip, ↓wc_wl, wo_some, wo_none, wo_ite, opQ_eq, seqQ_normal, seqQ_exit, seqQ_ret, blockQ_normal, blockQ_exit, blockQ_ret, iterQ_normal, iterQ_exit, iterQ_ret, retQ_normal, retQ_ret, retQ_exit, pickC_true, pickC_false, pickO_true, pickO_false, gstep_tt, gstep_ff, gstep_tf, gstep_ft, gstep_skip, int_bne, int_beq, decide_not, Nat.reduceAdd, Nat.reduceMul, Nat.reduceSub, Nat.reducePow, Nat.reduceLT, Nat.reduceLeDiff, Nat.reduceEqDiff, Int.reduceToNat, Int.reduceAdd, Int.reduceSub, Int.reduceNeg, Int.reduceMul, Int.reduceLT, Int.reduceLE, Int.reduceEq, le_max, ↓wo_build, ↓wo_buildSlice, evParts, ↓reduceIte, planIds, hasExt, cntFs, idxFs, clnFs, ovlFs, List.contains_cons, List.contains_nil, List.any_cons, List.any_nil, Nat.reduceBEq, setC, List.length_set, decide_eq_true_eq, decide_eq_false_iff_not, true_implies, false_implies, forall_const, reduceCtorEq, eq_self, Int.natCast_nonneg, Int.toNat_natCast, Int.ofNat_lt, D.int.injEq, Option.some.injEq, Nat.zero_add, Nat.add_zero, bne_iff_ne, bne_eq_false_iff_eq, beq_iff_eq, beq_eq_false_iff_ne, gt_iff_lt, ne_eq, not_true_eq_false, not_false_eq_true, planIds, hasExt, cntFs, idxFs, clnFs, ovlFs, List.contains_cons, List.contains_nil, List.any_cons, List.any_nil, Nat.reduceBEq, Nat.reduceMul, Nat.reduceAdd, ↓reduceIte, hal, h0, bne_self_eq_false, Tryd.f69]
  obtain ⟨d, T, ho, rfl⟩ := this
  exact callD_pure rfl rfl ho rfl
set_option maxRecDepth 100000 in
theorem cmpI_c {n : Nat} (hn : 2 ≤ n) (u v : Int) (st : Bool) (S : List Ob) : callD E (dcall E n) st S 45 [.int .i64 u, .int .i64 v] = some (.int .i64 (cmpI u v), S) := by
  obtain ⟨m, rfl⟩ : ∃ m, n = m + 1 := ⟨n - 1, by omega⟩
  have c1 := nan_c (n := m) (by omega) u
  have c2 := nan_c (n := m) (by omega) v
  have : WO (dcall E (m + 1) 45 [.int .i64 u, .int .i64 v] []) fun d _ => d = .int .i64 (cmpI u v) := by
    refine wo_dcall Tryd.func45 rfl (by decide) rfl 20 rfl (fun a hal ha => ?_)
    have h0 : a[0]? = some (.int .i64 u) := ha 0 (by simp)
    have h1 : a[1]? = some (.int .i64 v) := ha 1 (by simp)
    clear ha
    unfold cmpI
    by_cases h : u < v
    · rw [if_pos h]
      simp (maxSteps := 1000000) (disch := omega) only [push_cast, ↓wc_seq, ↓wc_block, ↓wc_scope, ↓wc_condL, ↓wc_region, ↓wr_cons, ↓wr_consgL, ↓wr_nil, ↓wo_pickL, ↓wo_callf, ↓wc_exit, ↓wc_ret, ↓wc_skip, ↓wc_wl, wo_some, wo_none, wo_ite, opQ_eq, seqQ_normal, seqQ_exit, seqQ_ret, blockQ_normal, blockQ_exit, blockQ_ret, iterQ_normal, iterQ_exit, iterQ_ret, retQ_normal, retQ_ret, retQ_exit, pickC_true, pickC_false, pickO_true, pickO_false, gstep_tt, gstep_ff, gstep_tf, gstep_ft, gstep_skip, int_bne, int_beq, decide_not, Nat.reduceAdd, Nat.reduceMul, Nat.reduceSub, Nat.reducePow, Nat.reduceLT, Nat.reduceLeDiff, Nat.reduceEqDiff, Int.reduceToNat, Int.reduceAdd, Int.reduceSub, Int.reduceNeg, Int.reduceMul, Int.reduceLT, Int.reduceLE, Int.reduceEq, le_max, ↓wo_build, ↓wo_buildSlice, evParts, ↓reduceIte, planIds, hasExt, cntFs, idxFs, clnFs, ovlFs, List.contains_cons, List.contains_nil, List.any_cons, List.any_nil, Nat.reduceBEq, setC, List.length_set, decide_eq_true_eq, decide_eq_false_iff_not, true_implies, false_implies, forall_const, reduceCtorEq, eq_self, Int.natCast_nonneg, Int.toNat_natCast, Int.ofNat_lt, D.int.injEq, Option.some.injEq, Nat.zero_add, Nat.add_zero, bne_iff_ne, bne_eq_false_iff_eq, beq_iff_eq, beq_eq_false_iff_ne, gt_iff_lt, ne_eq, not_true_eq_false, not_false_eq_true, planIds, hasExt, cntFs, idxFs, clnFs, ovlFs, List.contains_cons, List.contains_nil, List.any_cons, List.any_nil, Nat.reduceBEq, Nat.reduceMul, Nat.reduceAdd, ↓reduceIte, hal, h0, h1, c1, c2, h, Tryd.f45]
    · rw [if_neg h]
      by_cases h' : v < u
      · rw [if_pos h']
        simp (maxSteps := 1000000) (disch := omega) only [push_cast, ↓wc_seq, ↓wc_block, ↓wc_scope, ↓wc_condL, ↓wc_region, ↓wr_cons, ↓wr_consgL, ↓wr_nil, ↓wo_pickL, ↓wo_callf, ↓wc_exit, ↓wc_ret, ↓wc_skip, ↓wc_wl, wo_some, wo_none, wo_ite, opQ_eq, seqQ_normal, seqQ_exit, seqQ_ret, blockQ_normal, blockQ_exit, blockQ_ret, iterQ_normal, iterQ_exit, iterQ_ret, retQ_normal, retQ_ret, retQ_exit, pickC_true, pickC_false, pickO_true, pickO_false, gstep_tt, gstep_ff, gstep_tf, gstep_ft, gstep_skip, int_bne, int_beq, decide_not, Nat.reduceAdd, Nat.reduceMul, Nat.reduceSub, Nat.reducePow, Nat.reduceLT, Nat.reduceLeDiff, Nat.reduceEqDiff, Int.reduceToNat, Int.reduceAdd, Int.reduceSub, Int.reduceNeg, Int.reduceMul, Int.reduceLT, Int.reduceLE, Int.reduceEq, le_max, ↓wo_build, ↓wo_buildSlice, evParts, ↓reduceIte, planIds, hasExt, cntFs, idxFs, clnFs, ovlFs, List.contains_cons, List.contains_nil, List.any_cons, List.any_nil, Nat.reduceBEq, setC, List.length_set, decide_eq_true_eq, decide_eq_false_iff_not, true_implies, false_implies, forall_const, reduceCtorEq, eq_self, Int.natCast_nonneg, Int.toNat_natCast, Int.ofNat_lt, D.int.injEq, Option.some.injEq, Nat.zero_add, Nat.add_zero, bne_iff_ne, bne_eq_false_iff_eq, beq_iff_eq, beq_eq_false_iff_ne, gt_iff_lt, ne_eq, not_true_eq_false, not_false_eq_true, planIds, hasExt, cntFs, idxFs, clnFs, ovlFs, List.contains_cons, List.contains_nil, List.any_cons, List.any_nil, Nat.reduceBEq, Nat.reduceMul, Nat.reduceAdd, ↓reduceIte, hal, h0, h1, c1, c2, h, h', Tryd.f45]
      · rw [if_neg h']
        simp (maxSteps := 1000000) (disch := omega) only [push_cast, ↓wc_seq, ↓wc_block, ↓wc_scope, ↓wc_condL, ↓wc_region, ↓wr_cons, ↓wr_consgL, ↓wr_nil, ↓wo_pickL, ↓wo_callf, ↓wc_exit, ↓wc_ret, ↓wc_skip, ↓wc_wl, wo_some, wo_none, wo_ite, opQ_eq, seqQ_normal, seqQ_exit, seqQ_ret, blockQ_normal, blockQ_exit, blockQ_ret, iterQ_normal, iterQ_exit, iterQ_ret, retQ_normal, retQ_ret, retQ_exit, pickC_true, pickC_false, pickO_true, pickO_false, gstep_tt, gstep_ff, gstep_tf, gstep_ft, gstep_skip, int_bne, int_beq, decide_not, Nat.reduceAdd, Nat.reduceMul, Nat.reduceSub, Nat.reducePow, Nat.reduceLT, Nat.reduceLeDiff, Nat.reduceEqDiff, Int.reduceToNat, Int.reduceAdd, Int.reduceSub, Int.reduceNeg, Int.reduceMul, Int.reduceLT, Int.reduceLE, Int.reduceEq, le_max, ↓wo_build, ↓wo_buildSlice, evParts, ↓reduceIte, planIds, hasExt, cntFs, idxFs, clnFs, ovlFs, List.contains_cons, List.contains_nil, List.any_cons, List.any_nil, Nat.reduceBEq, setC, List.length_set, decide_eq_true_eq, decide_eq_false_iff_not, true_implies, false_implies, forall_const, reduceCtorEq, eq_self, Int.natCast_nonneg, Int.toNat_natCast, Int.ofNat_lt, D.int.injEq, Option.some.injEq, Nat.zero_add, Nat.add_zero, bne_iff_ne, bne_eq_false_iff_eq, beq_iff_eq, beq_eq_false_iff_ne, gt_iff_lt, ne_eq, not_true_eq_false, not_false_eq_true, planIds, hasExt, cntFs, idxFs, clnFs, ovlFs, List.contains_cons, List.contains_nil, List.any_cons, List.any_nil, Nat.reduceBEq, Nat.reduceMul, Nat.reduceAdd, ↓reduceIte, hal, h0, h1, c1, c2, h, h', Tryd.f45]
  obtain ⟨d, T, ho, rfl⟩ := this
  exact callD_pure rfl rfl ho rfl
def or3 (u v w : Int) : Int := if u ≠ 0 then u else if v ≠ 0 then v else w
set_option maxHeartbeats 4000000 in
set_option maxRecDepth 100000 in
theorem or_c {n : Nat} (hn : 8 ≤ n) (u v w : Int) (x : Bool) (st : Bool) (S : List Ob) : callD E (dcall E n) st S 44 [.sl 1 [[.int .i64 u], [.int .i64 v], [.int .i64 w]] x] = some (.int .i64 (or3 u v w), S) := by
  obtain ⟨m, rfl⟩ : ∃ m, n = m + 6 + 1 := ⟨n - 7, by omega⟩
  have : WO (dcall E (m + 6 + 1) 44 [.sl 1 [[.int .i64 u], [.int .i64 v], [.int .i64 w]] x] []) fun d _ => d = .int .i64 (or3 u v w) := by
    refine wo_dcall Tryd.func44 rfl (by decide) rfl 18 rfl (fun a hal ha => ?_)
    have h0 : a[0]? = some (.sl 1 [[.int .i64 u], [.int .i64 v], [.int .i64 w]] x) := ha 0 (by simp)
    clear ha
    obtain ⟨r, hr⟩ : ∃ r, or3 u v w = r := ⟨_, rfl⟩
    rw [hr]
    unfold or3 at hr
    by_cases h1 : u = 0
    · rw [if_neg (by simpa using h1)] at hr
      subst h1
      by_cases h2 : v = 0
      · rw [if_neg (by simpa using h2)] at hr
        subst h2
        by_cases h3 : w = 0
        · subst hr
          subst h3
          simp (maxSteps := 1000000) (disch := omega) only [push_cast, ↓wc_seq, ↓wc_block, ↓wc_scope, ↓wc_condL, ↓wc_region, ↓wr_cons, ↓wr_consgL, ↓wr_nil, ↓wo_pickL, ↓wo_callf, ↓wc_exit, ↓wc_ret, ↓wc_skip, ↓wc_wl, wo_some, wo_none, wo_ite, opQ_eq, seqQ_normal, seqQ_exit, seqQ_ret, blockQ_normal, blockQ_exit, blockQ_ret, iterQ_normal, iterQ_exit, iterQ_ret, retQ_normal, retQ_ret, retQ_exit, pickC_true, pickC_false, pickO_true, pickO_false, gstep_tt, gstep_ff, gstep_tf, gstep_ft, gstep_skip, int_bne, int_beq, decide_not, Nat.reduceAdd, Nat.reduceMul, Nat.reduceSub, Nat.reducePow, Nat.reduceLT, Nat.reduceLeDiff, Nat.reduceEqDiff, Int.reduceToNat, Int.reduceAdd, Int.reduceSub, Int.reduceNeg, Int.reduceMul, Int.reduceLT, Int.reduceLE, Int.reduceEq, le_max, ↓wo_build, ↓wo_buildSlice, evParts, ↓reduceIte, planIds, hasExt, cntFs, idxFs, clnFs, ovlFs, List.contains_cons, List.contains_nil, List.any_cons, List.any_nil, Nat.reduceBEq, setC, List.length_set, decide_eq_true_eq, decide_eq_false_iff_not, true_implies, false_implies, forall_const, reduceCtorEq, eq_self, Int.natCast_nonneg, Int.toNat_natCast, Int.ofNat_lt, D.int.injEq, Option.some.injEq, Nat.zero_add, Nat.add_zero, bne_iff_ne, bne_eq_false_iff_eq, beq_iff_eq, beq_eq_false_iff_ne, gt_iff_lt, ne_eq, not_true_eq_false, not_false_eq_true, planIds, hasExt, cntFs, idxFs, clnFs, ovlFs, List.contains_cons, List.contains_nil, List.any_cons, List.any_nil, Nat.reduceBEq, Nat.reduceMul, Nat.reduceAdd, ↓reduceIte, hal, h0, wl_wln, ↓wln_succ, loopQ_normal, loopQ_exit, loopQ_ret, wrap_ok, Tryd.f44]
        · subst hr
          simp (maxSteps := 1000000) (disch := omega) only [push_cast, ↓wc_seq, ↓wc_block, ↓wc_scope, ↓wc_condL, ↓wc_region, ↓wr_cons, ↓wr_consgL, ↓wr_nil, ↓wo_pickL, ↓wo_callf, ↓wc_exit, ↓wc_ret, ↓wc_skip, ↓wc_wl, wo_some, wo_none, wo_ite, opQ_eq, seqQ_normal, seqQ_exit, seqQ_ret, blockQ_normal, blockQ_exit, blockQ_ret, iterQ_normal, iterQ_exit, iterQ_ret, retQ_normal, retQ_ret, retQ_exit, pickC_true, pickC_false, pickO_true, pickO_false, gstep_tt, gstep_ff, gstep_tf, gstep_ft, gstep_skip, int_bne, int_beq, decide_not, Nat.reduceAdd, Nat.reduceMul, Nat.reduceSub, Nat.reducePow, Nat.reduceLT, Nat.reduceLeDiff, Nat.reduceEqDiff, Int.reduceToNat, Int.reduceAdd, Int.reduceSub, Int.reduceNeg, Int.reduceMul, Int.reduceLT, Int.reduceLE, Int.reduceEq, le_max, ↓wo_build, ↓wo_buildSlice, evParts, ↓reduceIte, planIds, hasExt, cntFs, idxFs, clnFs, ovlFs, List.contains_cons, List.contains_nil, List.any_cons, List.any_nil, Nat.reduceBEq, setC, List.length_set, decide_eq_true_eq, decide_eq_false_iff_not, true_implies, false_implies, forall_const, reduceCtorEq, eq_self, Int.natCast_nonneg, Int.toNat_natCast, Int.ofNat_lt, D.int.injEq, Option.some.injEq, Nat.zero_add, Nat.add_zero, bne_iff_ne, bne_eq_false_iff_eq, beq_iff_eq, beq_eq_false_iff_ne, gt_iff_lt, ne_eq, not_true_eq_false, not_false_eq_true, planIds, hasExt, cntFs, idxFs, clnFs, ovlFs, List.contains_cons, List.contains_nil, List.any_cons, List.any_nil, Nat.reduceBEq, Nat.reduceMul, Nat.reduceAdd, ↓reduceIte, hal, h0, wl_wln, ↓wln_succ, loopQ_normal, loopQ_exit, loopQ_ret, wrap_ok, h3, Tryd.f44]
      · rw [if_pos h2] at hr
        subst hr
        simp (maxSteps := 1000000) (disch := omega) only [push_cast, ↓wc_seq, ↓wc_block, ↓wc_scope, ↓wc_condL, ↓wc_region, ↓wr_cons, ↓wr_consgL, ↓wr_nil, ↓wo_pickL, ↓wo_callf, ↓wc_exit, ↓wc_ret, ↓wc_skip, ↓wc_wl, wo_some, wo_none, wo_ite, opQ_eq, seqQ_normal, seqQ_exit, seqQ_ret, blockQ_normal, blockQ_exit, blockQ_ret, iterQ_normal, iterQ_exit, iterQ_ret, retQ_normal, retQ_ret, retQ_exit, pickC_true, pickC_false, pickO_true, pickO_false, gstep_tt, gstep_ff, gstep_tf, gstep_ft, gstep_skip, int_bne, int_beq, decide_not, Nat.reduceAdd, Nat.reduceMul, Nat.reduceSub, Nat.reducePow, Nat.reduceLT, Nat.reduceLeDiff, Nat.reduceEqDiff, Int.reduceToNat, Int.reduceAdd, Int.reduceSub, Int.reduceNeg, Int.reduceMul, Int.reduceLT, Int.reduceLE, Int.reduceEq, le_max, ↓wo_build, ↓wo_buildSlice, evParts, ↓reduceIte, planIds, hasExt, cntFs, idxFs, clnFs, ovlFs, List.contains_cons, List.contains_nil, List.any_cons, List.any_nil, Nat.reduceBEq, setC, List.length_set, decide_eq_true_eq, decide_eq_false_iff_not, true_implies, false_implies, forall_const, reduceCtorEq, eq_self, Int.natCast_nonneg, Int.toNat_natCast, Int.ofNat_lt, D.int.injEq, Option.some.injEq, Nat.zero_add, Nat.add_zero, bne_iff_ne, bne_eq_false_iff_eq, beq_iff_eq, beq_eq_false_iff_ne, gt_iff_lt, ne_eq, not_true_eq_false, not_false_eq_true, planIds, hasExt, cntFs, idxFs, clnFs, ovlFs, List.contains_cons, List.contains_nil, List.any_cons, List.any_nil, Nat.reduceBEq, Nat.reduceMul, Nat.reduceAdd, ↓reduceIte, hal, h0, wl_wln, ↓wln_succ, loopQ_normal, loopQ_exit, loopQ_ret, wrap_ok, h2, Tryd.f44]
    · rw [if_pos h1] at hr
      subst hr
      simp (maxSteps := 1000000) (disch := omega) only [push_cast, ↓wc_seq, ↓wc_block, ↓wc_scope, ↓wc_condL, ↓wc_region, ↓wr_cons, ↓wr_consgL, ↓wr_nil, ↓wo_pickL, ↓wo_callf, ↓wc_exit, ↓wc_ret, ↓wc_skip, ↓wc_wl, wo_some, wo_none, wo_ite, opQ_eq, seqQ_normal, seqQ_exit, seqQ_ret, blockQ_normal, blockQ_exit, blockQ_ret, iterQ_normal, iterQ_exit, iterQ_ret, retQ_normal, retQ_ret, retQ_exit, pickC_true, pickC_false, pickO_true, pickO_false, gstep_tt, gstep_ff, gstep_tf, gstep_ft, gstep_skip, int_bne, int_beq, decide_not, Nat.reduceAdd, Nat.reduceMul, Nat.reduceSub, Nat.reducePow, Nat.reduceLT, Nat.reduceLeDiff, Nat.reduceEqDiff, Int.reduceToNat, Int.reduceAdd, Int.reduceSub, Int.reduceNeg, Int.reduceMul, Int.reduceLT, Int.reduceLE, Int.reduceEq, le_max, ↓wo_build, ↓wo_buildSlice, evParts, ↓reduceIte, planIds, hasExt, cntFs, idxFs, clnFs, ovlFs, List.contains_cons, List.contains_nil, List.any_cons, List.any_nil, Nat.reduceBEq, setC, List.length_set, decide_eq_true_eq, decide_eq_false_iff_not, true_implies, false_implies, forall_const, reduceCtorEq, eq_self, Int.natCast_nonneg, Int.toNat_natCast, Int.ofNat_lt, D.int.injEq, Option.some.injEq, Nat.zero_add, Nat.add_zero, bne_iff_ne, bne_eq_false_iff_eq, beq_iff_eq, beq_eq_false_iff_ne, gt_iff_lt, ne_eq, not_true_eq_false, not_false_eq_true, planIds, hasExt, cntFs, idxFs, clnFs, ovlFs, List.contains_cons, List.contains_nil, List.any_cons, List.any_nil, Nat.reduceBEq, Nat.reduceMul, Nat.reduceAdd, ↓reduceIte, hal, h0, wl_wln, ↓wln_succ, loopQ_normal, loopQ_exit, loopQ_ret, wrap_ok, h1, Tryd.f44]
  obtain ⟨d, T, ho, rfl⟩ := this
  exact callD_pure rfl rfl ho rfl

theorem callV_obs {call : Call} {st : Bool} {S : List Ob} {g : FuncId} {x y l : List D} (hm : E.mode g = .obs) : callV E call st S (.func g x y) l = callD E call st S g (x ++ l ++ y) := by
  show (if (st && !(decide (E.mode g = .pure) || decide (E.mode g = .obs))) = true then none else callD E call st S g (x ++ l ++ y)) = _
  rw [if_neg (by simp [hm])]
set_option maxHeartbeats 4000000 in
set_option maxRecDepth 100000 in
theorem lex_d {n j1 j2 : Nat} {p q : List Nat} {S : List Ob} (h1 : S[j1]? = some (.row 1 (p.map fun a => [intV a]))) (h2 : S[j2]? = some (.row 1 (q.map fun a => [intV a]))) (hp : p.length ≤ 1000) (_hq : q.length ≤ 1000) (hn : p.length + 4 < n) :
    WO (dcall E (n + 1) 46 [.os j1 0 p.length false, .os j2 0 q.length false] S) fun r T => r = .int .i64 (cmpL p q) ∧ T = S := by
  have g1 := h1
  have g2 := h2
  clear h1 h2
  refine wo_dcall Tryd.func46 rfl (by decide) rfl 36 rfl (fun a hal ha => ?_)
  have h0 : a[0]? = some (.os j1 0 p.length false) := ha 0 (by simp)
  have h1 : a[1]? = some (.os j2 0 q.length false) := ha 1 (by simp)
  clear ha
  simp (maxSteps := 1000000) (disch := omega) only [push_cast, ↓wc_seq, ↓wc_block, ↓wc_scope, ↓wc_condL, ↓wc_region, ↓wr_cons, ↓wr_consgL, ↓wr_nil, ↓wo_pickL, ↓wo_callf, ↓wc_exit, ↓wc_ret, ↓wc_skip, ↓wc_wl, wo_some, wo_none, wo_ite, opQ_eq, seqQ_normal, seqQ_exit, seqQ_ret, blockQ_normal, blockQ_exit, blockQ_ret, iterQ_normal, iterQ_exit, iterQ_ret, retQ_normal, retQ_ret, retQ_exit, pickC_true, pickC_false, pickO_true, pickO_false, gstep_tt, gstep_ff, gstep_tf, gstep_ft, gstep_skip, int_bne, int_beq, decide_not, Nat.reduceAdd, Nat.reduceMul, Nat.reduceSub, Nat.reducePow, Nat.reduceLT, Nat.reduceLeDiff, Nat.reduceEqDiff, Int.reduceToNat, Int.reduceAdd, Int.reduceSub, Int.reduceNeg, Int.reduceMul, Int.reduceLT, Int.reduceLE, Int.reduceEq, le_max, ↓wo_build, ↓wo_buildSlice, evParts, ↓reduceIte, planIds, hasExt, cntFs, idxFs, clnFs, ovlFs, List.contains_cons, List.contains_nil, List.any_cons, List.any_nil, Nat.reduceBEq, setC, List.length_set, decide_eq_true_eq, decide_eq_false_iff_not, true_implies, false_implies, forall_const, reduceCtorEq, eq_self, Int.natCast_nonneg, Int.toNat_natCast, Int.ofNat_lt, D.int.injEq, Option.some.injEq, Nat.zero_add, Nat.add_zero, bne_iff_ne, bne_eq_false_iff_eq, beq_iff_eq, beq_eq_false_iff_ne, gt_iff_lt, ne_eq, not_true_eq_false, not_false_eq_true, planIds, hasExt, cntFs, idxFs, clnFs, ovlFs, List.contains_cons, List.contains_nil, List.any_cons, List.any_nil, Nat.reduceBEq, Nat.reduceMul, Nat.reduceAdd, ↓reduceIte, hal, h0, h1]
  refine wl_loop (fun i a T => T = S ∧ a.length = 36 ∧ a[0]? = some (.os j1 0 p.length false) ∧ a[1]? = some (.os j2 0 q.length false) ∧ a[9]? = some (.os j1 0 p.length false) ∧ a[10]? = some (.int .i64 p.length) ∧ a[11]? = some (.int .i64 i) ∧ cmpL p q = cmpL (p.drop i) (q.drop i)) p.length ?_ (by omega) ?_
  · simp (maxSteps := 1000000) (disch := omega) only [push_cast, ↓wc_seq, ↓wc_block, ↓wc_scope, ↓wc_condL, ↓wc_region, ↓wr_cons, ↓wr_consgL, ↓wr_nil, ↓wo_pickL, ↓wo_callf, ↓wc_exit, ↓wc_ret, ↓wc_skip, ↓wc_wl, wo_some, wo_none, wo_ite, opQ_eq, seqQ_normal, seqQ_exit, seqQ_ret, blockQ_normal, blockQ_exit, blockQ_ret, iterQ_normal, iterQ_exit, iterQ_ret, retQ_normal, retQ_ret, retQ_exit, pickC_true, pickC_false, pickO_true, pickO_false, gstep_tt, gstep_ff, gstep_tf, gstep_ft, gstep_skip, int_bne, int_beq, decide_not, Nat.reduceAdd, Nat.reduceMul, Nat.reduceSub, Nat.reducePow, Nat.reduceLT, Nat.reduceLeDiff, Nat.reduceEqDiff, Int.reduceToNat, Int.reduceAdd, Int.reduceSub, Int.reduceNeg, Int.reduceMul, Int.reduceLT, Int.reduceLE, Int.reduceEq, le_max, ↓wo_build, ↓wo_buildSlice, evParts, ↓reduceIte, planIds, hasExt, cntFs, idxFs, clnFs, ovlFs, List.contains_cons, List.contains_nil, List.any_cons, List.any_nil, Nat.reduceBEq, setC, List.length_set, decide_eq_true_eq, decide_eq_false_iff_not, true_implies, false_implies, forall_const, reduceCtorEq, eq_self, Int.natCast_nonneg, Int.toNat_natCast, Int.ofNat_lt, D.int.injEq, Option.some.injEq, Nat.zero_add, Nat.add_zero, bne_iff_ne, bne_eq_false_iff_eq, beq_iff_eq, beq_eq_false_iff_ne, gt_iff_lt, ne_eq, not_true_eq_false, not_false_eq_true, planIds, hasExt, cntFs, idxFs, clnFs, ovlFs, List.contains_cons, List.contains_nil, List.any_cons, List.any_nil, Nat.reduceBEq, Nat.reduceMul, Nat.reduceAdd, ↓reduceIte, hal, h0, h1, Int.natCast_zero, List.drop_zero]
  clear hal h0 h1 a
  rintro i a T hi ⟨rfl, hal, h0, h1, h9, h10, h11, hv⟩
  rcases Nat.lt_or_eq_of_le hi with hlt | rfl
  case inr =>
    rw [List.drop_length] at hv
    by_cases g : p.length < q.length
    · have hc : cmpL p q = -1 := by
        rw [hv]
        cases h : q.drop p.length with
        | nil => have := congrArg List.length h; simp at this; omega
        | cons _ _ => rfl
      simp (maxSteps := 1000000) (disch := omega) only [push_cast, ↓wc_seq, ↓wc_block, ↓wc_scope, ↓wc_condL, ↓wc_region, ↓wr_cons, ↓wr_consgL, ↓wr_nil, ↓wo_pickL, ↓wo_callf, ↓wc_exit, ↓wc_ret, ↓wc_skip, ↓wc_wl, wo_some, wo_none, wo_ite, opQ_eq, seqQ_normal, seqQ_exit, seqQ_ret, blockQ_normal, blockQ_exit, blockQ_ret, iterQ_normal, iterQ_exit, iterQ_ret, retQ_normal, retQ_ret, retQ_exit, pickC_true, pickC_false, pickO_true, pickO_false, gstep_tt, gstep_ff, gstep_tf, gstep_ft, gstep_skip, int_bne, int_beq, decide_not, Nat.reduceAdd, Nat.reduceMul, Nat.reduceSub, Nat.reducePow, Nat.reduceLT, Nat.reduceLeDiff, Nat.reduceEqDiff, Int.reduceToNat, Int.reduceAdd, Int.reduceSub, Int.reduceNeg, Int.reduceMul, Int.reduceLT, Int.reduceLE, Int.reduceEq, le_max, ↓wo_build, ↓wo_buildSlice, evParts, ↓reduceIte, planIds, hasExt, cntFs, idxFs, clnFs, ovlFs, List.contains_cons, List.contains_nil, List.any_cons, List.any_nil, Nat.reduceBEq, setC, List.length_set, decide_eq_true_eq, decide_eq_false_iff_not, true_implies, false_implies, forall_const, reduceCtorEq, eq_self, Int.natCast_nonneg, Int.toNat_natCast, Int.ofNat_lt, D.int.injEq, Option.some.injEq, Nat.zero_add, Nat.add_zero, bne_iff_ne, bne_eq_false_iff_eq, beq_iff_eq, beq_eq_false_iff_ne, gt_iff_lt, ne_eq, not_true_eq_false, not_false_eq_true, planIds, hasExt, cntFs, idxFs, clnFs, ovlFs, List.contains_cons, List.contains_nil, List.any_cons, List.any_nil, Nat.reduceBEq, Nat.reduceMul, Nat.reduceAdd, ↓reduceIte, hal, h0, h1, h9, h10, h11, Nat.lt_irrefl, g, hc, Tryd.f46]
    · have hc : cmpL p q = 0 := by
        rw [hv, List.drop_of_length_le (by omega)]; rfl
      simp (maxSteps := 1000000) (disch := omega) only [push_cast, ↓wc_seq, ↓wc_block, ↓wc_scope, ↓wc_condL, ↓wc_region, ↓wr_cons, ↓wr_consgL, ↓wr_nil, ↓wo_pickL, ↓wo_callf, ↓wc_exit, ↓wc_ret, ↓wc_skip, ↓wc_wl, wo_some, wo_none, wo_ite, opQ_eq, seqQ_normal, seqQ_exit, seqQ_ret, blockQ_normal, blockQ_exit, blockQ_ret, iterQ_normal, iterQ_exit, iterQ_ret, retQ_normal, retQ_ret, retQ_exit, pickC_true, pickC_false, pickO_true, pickO_false, gstep_tt, gstep_ff, gstep_tf, gstep_ft, gstep_skip, int_bne, int_beq, decide_not, Nat.reduceAdd, Nat.reduceMul, Nat.reduceSub, Nat.reducePow, Nat.reduceLT, Nat.reduceLeDiff, Nat.reduceEqDiff, Int.reduceToNat, Int.reduceAdd, Int.reduceSub, Int.reduceNeg, Int.reduceMul, Int.reduceLT, Int.reduceLE, Int.reduceEq, le_max, ↓wo_build, ↓wo_buildSlice, evParts, ↓reduceIte, planIds, hasExt, cntFs, idxFs, clnFs, ovlFs, List.contains_cons, List.contains_nil, List.any_cons, List.any_nil, Nat.reduceBEq, setC, List.length_set, decide_eq_true_eq, decide_eq_false_iff_not, true_implies, false_implies, forall_const, reduceCtorEq, eq_self, Int.natCast_nonneg, Int.toNat_natCast, Int.ofNat_lt, D.int.injEq, Option.some.injEq, Nat.zero_add, Nat.add_zero, bne_iff_ne, bne_eq_false_iff_eq, beq_iff_eq, beq_eq_false_iff_ne, gt_iff_lt, ne_eq, not_true_eq_false, not_false_eq_true, planIds, hasExt, cntFs, idxFs, clnFs, ovlFs, List.contains_cons, List.contains_nil, List.any_cons, List.any_nil, Nat.reduceBEq, Nat.reduceMul, Nat.reduceAdd, ↓reduceIte, hal, h0, h1, h9, h10, h11, Nat.lt_irrefl, g, hc, Tryd.f46]
  obtain ⟨u, hu⟩ : ∃ u, p[i]? = some u := ⟨p[i], by simp⟩
  rw [drop_at hu] at hv
  have hw : IntKind.i64.wrap ((i : Int) + 1) = (i : Int) + 1 := wrap_ok (by omega) (by omega)
  by_cases g : q.length ≤ i
  · have hc : cmpL p q = 1 := by rw [hv, List.drop_of_length_le g]; rfl
    simp (maxSteps := 1000000) (disch := omega) only [push_cast, ↓wc_seq, ↓wc_block, ↓wc_scope, ↓wc_condL, ↓wc_region, ↓wr_cons, ↓wr_consgL, ↓wr_nil, ↓wo_pickL, ↓wo_callf, ↓wc_exit, ↓wc_ret, ↓wc_skip, ↓wc_wl, wo_some, wo_none, wo_ite, opQ_eq, seqQ_normal, seqQ_exit, seqQ_ret, blockQ_normal, blockQ_exit, blockQ_ret, iterQ_normal, iterQ_exit, iterQ_ret, retQ_normal, retQ_ret, retQ_exit, pickC_true, pickC_false, pickO_true, pickO_false, gstep_tt, gstep_ff, gstep_tf, gstep_ft, gstep_skip, int_bne, int_beq, decide_not, Nat.reduceAdd, Nat.reduceMul, Nat.reduceSub, Nat.reducePow, Nat.reduceLT, Nat.reduceLeDiff, Nat.reduceEqDiff, Int.reduceToNat, Int.reduceAdd, Int.reduceSub, Int.reduceNeg, Int.reduceMul, Int.reduceLT, Int.reduceLE, Int.reduceEq, le_max, ↓wo_build, ↓wo_buildSlice, evParts, ↓reduceIte, planIds, hasExt, cntFs, idxFs, clnFs, ovlFs, List.contains_cons, List.contains_nil, List.any_cons, List.any_nil, Nat.reduceBEq, setC, List.length_set, decide_eq_true_eq, decide_eq_false_iff_not, true_implies, false_implies, forall_const, reduceCtorEq, eq_self, Int.natCast_nonneg, Int.toNat_natCast, Int.ofNat_lt, D.int.injEq, Option.some.injEq, Nat.zero_add, Nat.add_zero, bne_iff_ne, bne_eq_false_iff_eq, beq_iff_eq, beq_eq_false_iff_ne, gt_iff_lt, ne_eq, not_true_eq_false, not_false_eq_true, planIds, hasExt, cntFs, idxFs, clnFs, ovlFs, List.contains_cons, List.contains_nil, List.any_cons, List.any_nil, Nat.reduceBEq, Nat.reduceMul, Nat.reduceAdd, ↓reduceIte, hal, h0, h1, h9, h10, h11, hlt, g1, List.getElem?_map, hu, ge_iff_le, Int.ofNat_le, g, hc, Tryd.f46]
  obtain ⟨v, hvv⟩ : ∃ v, q[i]? = some v := ⟨q[i]'(by omega), by simp⟩
  have hlq : i < q.length := by omega
  rw [drop_at hvv, cmpL] at hv
  have cc := cmpI_c (n := n) (by omega) (u : Int) (v : Int)
  by_cases e : cmpI (u : Int) (v : Int) = 0
  · rw [if_pos e] at hv
    simp (maxSteps := 1000000) (disch := omega) only [push_cast, ↓wc_seq, ↓wc_block, ↓wc_scope, ↓wc_condL, ↓wc_region, ↓wr_cons, ↓wr_consgL, ↓wr_nil, ↓wo_pickL, ↓wo_callf, ↓wc_exit, ↓wc_ret, ↓wc_skip, ↓wc_wl, wo_some, wo_none, wo_ite, opQ_eq, seqQ_normal, seqQ_exit, seqQ_ret, blockQ_normal, blockQ_exit, blockQ_ret, iterQ_normal, iterQ_exit, iterQ_ret, retQ_normal, retQ_ret, retQ_exit, pickC_true, pickC_false, pickO_true, pickO_false, gstep_tt, gstep_ff, gstep_tf, gstep_ft, gstep_skip, int_bne, int_beq, decide_not, Nat.reduceAdd, Nat.reduceMul, Nat.reduceSub, Nat.reducePow, Nat.reduceLT, Nat.reduceLeDiff, Nat.reduceEqDiff, Int.reduceToNat, Int.reduceAdd, Int.reduceSub, Int.reduceNeg, Int.reduceMul, Int.reduceLT, Int.reduceLE, Int.reduceEq, le_max, ↓wo_build, ↓wo_buildSlice, evParts, ↓reduceIte, planIds, hasExt, cntFs, idxFs, clnFs, ovlFs, List.contains_cons, List.contains_nil, List.any_cons, List.any_nil, Nat.reduceBEq, setC, List.length_set, decide_eq_true_eq, decide_eq_false_iff_not, true_implies, false_implies, forall_const, reduceCtorEq, eq_self, Int.natCast_nonneg, Int.toNat_natCast, Int.ofNat_lt, D.int.injEq, Option.some.injEq, Nat.zero_add, Nat.add_zero, bne_iff_ne, bne_eq_false_iff_eq, beq_iff_eq, beq_eq_false_iff_ne, gt_iff_lt, ne_eq, not_true_eq_false, not_false_eq_true, planIds, hasExt, cntFs, idxFs, clnFs, ovlFs, List.contains_cons, List.contains_nil, List.any_cons, List.any_nil, Nat.reduceBEq, Nat.reduceMul, Nat.reduceAdd, ↓reduceIte, hal, h0, h1, h9, h10, h11, hlt, g1, g2, List.getElem?_map, hu, hvv, hlq, ge_iff_le, Int.ofNat_le, g, cc, e, hw, Int.natCast_add, Int.natCast_one]
    exact hv
  · rw [if_neg e] at hv
    simp (maxSteps := 1000000) (disch := omega) only [push_cast, ↓wc_seq, ↓wc_block, ↓wc_scope, ↓wc_condL, ↓wc_region, ↓wr_cons, ↓wr_consgL, ↓wr_nil, ↓wo_pickL, ↓wo_callf, ↓wc_exit, ↓wc_ret, ↓wc_skip, ↓wc_wl, wo_some, wo_none, wo_ite, opQ_eq, seqQ_normal, seqQ_exit, seqQ_ret, blockQ_normal, blockQ_exit, blockQ_ret, iterQ_normal, iterQ_exit, iterQ_ret, retQ_normal, retQ_ret, retQ_exit, pickC_true, pickC_false, pickO_true, pickO_false, gstep_tt, gstep_ff, gstep_tf, gstep_ft, gstep_skip, int_bne, int_beq, decide_not, Nat.reduceAdd, Nat.reduceMul, Nat.reduceSub, Nat.reducePow, Nat.reduceLT, Nat.reduceLeDiff, Nat.reduceEqDiff, Int.reduceToNat, Int.reduceAdd, Int.reduceSub, Int.reduceNeg, Int.reduceMul, Int.reduceLT, Int.reduceLE, Int.reduceEq, le_max, ↓wo_build, ↓wo_buildSlice, evParts, ↓reduceIte, planIds, hasExt, cntFs, idxFs, clnFs, ovlFs, List.contains_cons, List.contains_nil, List.any_cons, List.any_nil, Nat.reduceBEq, setC, List.length_set, decide_eq_true_eq, decide_eq_false_iff_not, true_implies, false_implies, forall_const, reduceCtorEq, eq_self, Int.natCast_nonneg, Int.toNat_natCast, Int.ofNat_lt, D.int.injEq, Option.some.injEq, Nat.zero_add, Nat.add_zero, bne_iff_ne, bne_eq_false_iff_eq, beq_iff_eq, beq_eq_false_iff_ne, gt_iff_lt, ne_eq, not_true_eq_false, not_false_eq_true, planIds, hasExt, cntFs, idxFs, clnFs, ovlFs, List.contains_cons, List.contains_nil, List.any_cons, List.any_nil, Nat.reduceBEq, Nat.reduceMul, Nat.reduceAdd, ↓reduceIte, hal, h0, h1, h9, h10, h11, hlt, g1, g2, List.getElem?_map, hu, hvv, hlq, ge_iff_le, Int.ofNat_le, g, cc, e, hv, Tryd.f46]
/-- A journey that may be compared. -/
structure GoodQ (S0 : List Ob) (k : Nat) (segs : List Sgm) (q : Nat × List Nat) : Prop where
  row : S0[q.1]? = some (.row 1 (q.2.map fun a => [intV a]))
  ne : q.1 ≠ k
  non : q.2 ≠ []
  ind : ∀ j ∈ q.2, j < segs.length
  len : q.2.length ≤ 100
set_option maxHeartbeats 4000000 in
set_option maxRecDepth 100000 in
theorem last_c {n j b6 : Nat} {p : List Nat} {segs : List Sgm} {sgD : D} {S : List Ob} (hn : 1 ≤ n) (h1 : S[j]? = some (.row 1 (p.map fun a => [intV a]))) (hp : p.length ≤ 100) (hne : p ≠ []) (hj : ∀ j ∈ p, j < segs.length) (h6 : S[b6]? = some (.row 1 [[sgD]])) (hs : SegD S sgD segs) (st : Bool) :
    callD E (dcall E n) st S 41 [.os j 0 p.length false, .loc b6 0 0] = some (.int .i64 (lastArr segs p), S) := by
  obtain ⟨n, rfl⟩ : ∃ m, n = m + 1 := ⟨n - 1, by omega⟩
  obtain ⟨m, hm⟩ : ∃ m, p.length = m + 1 := ⟨p.length - 1, by have := List.length_pos_iff.2 hne; omega⟩
  obtain ⟨u, hu⟩ : ∃ u, p[m]? = some u := ⟨p[m]'(by omega), by simp⟩
  have hul := hj u (List.mem_of_getElem? hu)
  obtain ⟨s, hsu⟩ : ∃ s, segs[u]? = some s := ⟨segs[u], by simp⟩
  have hla : lastArr segs p = s.arr := by
    unfold lastArr arrAt
    rw [show p.length - 1 = m by omega, hu]
    simp only [hsu]
  have hse : s.enc = [.str s.c, .int .i64 s.n, .int .i64 s.d, .str s.f, .str s.t, .int .i64 s.dep, .int .i64 s.arr] := rfl
  have w1 : IntKind.i64.wrap ((p.length : Int) - 1) = (m : Int) := by rw [wrap_ok (by omega) (by omega)]; omega
  have hml : m < p.length := by omega
  have g1 := h1
  clear h1
  have : WO (dcall E (n + 1) 41 [.os j 0 p.length false, .loc b6 0 0] S) fun r T => r = .int .i64 s.arr ∧ T = S := by
    refine wo_dcall Tryd.func41 rfl (by decide) rfl 14 rfl (fun a hal ha => ?_)
    have h0 : a[0]? = some (.os j 0 p.length false) := ha 0 (by simp)
    have h1 : a[1]? = some (.loc b6 0 0) := ha 1 (by simp)
    clear ha
    rcases hs with ⟨rfl, hse0⟩ | ⟨x, rfl⟩ | ⟨k, rfl, hk⟩
    · rw [hse0] at hsu; simp at hsu
    · simp (maxSteps := 1000000) (disch := omega) only [push_cast, ↓wc_seq, ↓wc_block, ↓wc_scope, ↓wc_condL, ↓wc_region, ↓wr_cons, ↓wr_consgL, ↓wr_nil, ↓wo_pickL, ↓wo_callf, ↓wc_exit, ↓wc_ret, ↓wc_skip, ↓wc_wl, wo_some, wo_none, wo_ite, opQ_eq, seqQ_normal, seqQ_exit, seqQ_ret, blockQ_normal, blockQ_exit, blockQ_ret, iterQ_normal, iterQ_exit, iterQ_ret, retQ_normal, retQ_ret, retQ_exit, pickC_true, pickC_false, pickO_true, pickO_false, gstep_tt, gstep_ff, gstep_tf, gstep_ft, gstep_skip, int_bne, int_beq, decide_not, Nat.reduceAdd, Nat.reduceMul, Nat.reduceSub, Nat.reducePow, Nat.reduceLT, Nat.reduceLeDiff, Nat.reduceEqDiff, Int.reduceToNat, Int.reduceAdd, Int.reduceSub, Int.reduceNeg, Int.reduceMul, Int.reduceLT, Int.reduceLE, Int.reduceEq, le_max, ↓wo_build, ↓wo_buildSlice, evParts, ↓reduceIte, planIds, hasExt, cntFs, idxFs, clnFs, ovlFs, List.contains_cons, List.contains_nil, List.any_cons, List.any_nil, Nat.reduceBEq, setC, List.length_set, decide_eq_true_eq, decide_eq_false_iff_not, true_implies, false_implies, forall_const, reduceCtorEq, eq_self, Int.natCast_nonneg, Int.toNat_natCast, Int.ofNat_lt, D.int.injEq, Option.some.injEq, Nat.zero_add, Nat.add_zero, bne_iff_ne, bne_eq_false_iff_eq, beq_iff_eq, beq_eq_false_iff_ne, gt_iff_lt, ne_eq, not_true_eq_false, not_false_eq_true, planIds, hasExt, cntFs, idxFs, clnFs, ovlFs, List.contains_cons, List.contains_nil, List.any_cons, List.any_nil, Nat.reduceBEq, Nat.reduceMul, Nat.reduceAdd, ↓reduceIte, hal, h0, h1, h6, g1, w1, hml, List.getElem?_map, hu, hul, hsu, hse, Tryd.f41]
    · simp (maxSteps := 1000000) (disch := omega) only [push_cast, ↓wc_seq, ↓wc_block, ↓wc_scope, ↓wc_condL, ↓wc_region, ↓wr_cons, ↓wr_consgL, ↓wr_nil, ↓wo_pickL, ↓wo_callf, ↓wc_exit, ↓wc_ret, ↓wc_skip, ↓wc_wl, wo_some, wo_none, wo_ite, opQ_eq, seqQ_normal, seqQ_exit, seqQ_ret, blockQ_normal, blockQ_exit, blockQ_ret, iterQ_normal, iterQ_exit, iterQ_ret, retQ_normal, retQ_ret, retQ_exit, pickC_true, pickC_false, pickO_true, pickO_false, gstep_tt, gstep_ff, gstep_tf, gstep_ft, gstep_skip, int_bne, int_beq, decide_not, Nat.reduceAdd, Nat.reduceMul, Nat.reduceSub, Nat.reducePow, Nat.reduceLT, Nat.reduceLeDiff, Nat.reduceEqDiff, Int.reduceToNat, Int.reduceAdd, Int.reduceSub, Int.reduceNeg, Int.reduceMul, Int.reduceLT, Int.reduceLE, Int.reduceEq, le_max, ↓wo_build, ↓wo_buildSlice, evParts, ↓reduceIte, planIds, hasExt, cntFs, idxFs, clnFs, ovlFs, List.contains_cons, List.contains_nil, List.any_cons, List.any_nil, Nat.reduceBEq, setC, List.length_set, decide_eq_true_eq, decide_eq_false_iff_not, true_implies, false_implies, forall_const, reduceCtorEq, eq_self, Int.natCast_nonneg, Int.toNat_natCast, Int.ofNat_lt, D.int.injEq, Option.some.injEq, Nat.zero_add, Nat.add_zero, bne_iff_ne, bne_eq_false_iff_eq, beq_iff_eq, beq_eq_false_iff_ne, gt_iff_lt, ne_eq, not_true_eq_false, not_false_eq_true, planIds, hasExt, cntFs, idxFs, clnFs, ovlFs, List.contains_cons, List.contains_nil, List.any_cons, List.any_nil, Nat.reduceBEq, Nat.reduceMul, Nat.reduceAdd, ↓reduceIte, hal, h0, h1, h6, g1, w1, hml, List.getElem?_map, hu, hul, hk, hsu, hse, Tryd.f41]
  obtain ⟨r, T, ho, rfl, rfl⟩ := this
  rw [hla]
  exact callD_obs rfl (by simp [pureL_cons, D.pure]) ho rfl
set_option maxHeartbeats 4000000 in
set_option maxRecDepth 100000 in
theorem ord_c {n j1 j2 b6 b13 : Nat} {p q : List Nat} {segs : List Sgm} {sgD : D} {S : List Ob} (hn : 110 ≤ n) (h1 : S[j1]? = some (.row 1 (p.map fun a => [intV a]))) (h2 : S[j2]? = some (.row 1 (q.map fun a => [intV a]))) (hp : p.length ≤ 100) (hq : q.length ≤ 100) (hpe : p ≠ []) (hqe : q ≠ []) (hpj : ∀ j ∈ p, j < segs.length) (hqj : ∀ j ∈ q, j < segs.length)
    (h6 : S[b6]? = some (.row 1 [[sgD]])) (h13 : S[b13]? = some (.row 1 [[.func 41 [] [.loc b6 0 0]]])) (hs : SegD S sgD segs) (st : Bool) :
    callV E (dcall E n) st S (.func 43 [] [.loc b13 0 0]) [.os j1 0 p.length false, .os j2 0 q.length false] = some (.int .i64 (cmpP segs p q), S) := by
  obtain ⟨n, rfl⟩ : ∃ m, n = m + 1 := ⟨n - 1, by omega⟩
  have c1 := fun st => last_c (n := n) (by omega) h1 hp hpe hpj h6 hs st
  have c2 := fun st => last_c (n := n) (by omega) h2 hq hqe hqj h6 hs st
  have c3 := cmpI_c (n := n) (by omega) (lastArr segs p) (lastArr segs q)
  have c4 := cmpI_c (n := n) (by omega) (p.length : Int) (q.length : Int)
  have c5 : ∀ st, callD E (dcall E n) st S 46 [.os j1 0 p.length false, .os j2 0 q.length false] = some (.int .i64 (cmpL p q), S) := fun st => by
    obtain ⟨_, T, ho, rfl, rfl⟩ := lex_d (n := n - 1) h1 h2 (by omega) (by omega) (by omega)
    rw [show n - 1 + 1 = n by omega] at ho
    exact callD_obs rfl (by simp [pureL_cons, D.pure]) ho rfl
  have c6 := or_c (n := n) (by omega) (cmpI (lastArr segs p) (lastArr segs q)) (cmpI (p.length : Int) (q.length : Int)) (cmpL p q) true
  have hc : or3 (cmpI (lastArr segs p) (lastArr segs q)) (cmpI (p.length : Int) (q.length : Int)) (cmpL p q) = cmpP segs p q := rfl
  rw [hc] at c6
  clear h1 h2
  have cv1 : ∀ st, callV E (dcall E n) st S (.func 41 [] [.loc b6 0 0]) [.os j1 0 p.length false] = some (.int .i64 (lastArr segs p), S) := fun st => by
    rw [callV_obs rfl]
    exact c1 st
  have cv2 : ∀ st, callV E (dcall E n) st S (.func 41 [] [.loc b6 0 0]) [.os j2 0 q.length false] = some (.int .i64 (lastArr segs q), S) := fun st => by
    rw [callV_obs rfl]
    exact c2 st
  have : WO (dcall E (n + 1) 43 [.os j1 0 p.length false, .os j2 0 q.length false, .loc b13 0 0] S) fun r T => r = .int .i64 (cmpP segs p q) ∧ T = S := by
    refine wo_dcall Tryd.func43 rfl (by decide) rfl 23 rfl (fun a hal ha => ?_)
    have h0 : a[0]? = some (.os j1 0 p.length false) := ha 0 (by simp)
    have h1 : a[1]? = some (.os j2 0 q.length false) := ha 1 (by simp)
    have h2 : a[2]? = some (.loc b13 0 0) := ha 2 (by simp)
    clear ha
    simp (maxSteps := 1000000) (disch := omega) only [push_cast, ↓wc_seq, ↓wc_block, ↓wc_scope, ↓wc_condL, ↓wc_region, ↓wr_cons, ↓wr_consgL, ↓wr_nil, ↓wo_pickL, ↓wo_callf, ↓wc_exit, ↓wc_ret, ↓wc_skip, ↓wc_wl, wo_some, wo_none, wo_ite, opQ_eq, seqQ_normal, seqQ_exit, seqQ_ret, blockQ_normal, blockQ_exit, blockQ_ret, iterQ_normal, iterQ_exit, iterQ_ret, retQ_normal, retQ_ret, retQ_exit, pickC_true, pickC_false, pickO_true, pickO_false, gstep_tt, gstep_ff, gstep_tf, gstep_ft, gstep_skip, int_bne, int_beq, decide_not, Nat.reduceAdd, Nat.reduceMul, Nat.reduceSub, Nat.reducePow, Nat.reduceLT, Nat.reduceLeDiff, Nat.reduceEqDiff, Int.reduceToNat, Int.reduceAdd, Int.reduceSub, Int.reduceNeg, Int.reduceMul, Int.reduceLT, Int.reduceLE, Int.reduceEq, le_max, ↓wo_build, ↓wo_buildSlice, evParts, ↓reduceIte, planIds, hasExt, cntFs, idxFs, clnFs, ovlFs, List.contains_cons, List.contains_nil, List.any_cons, List.any_nil, Nat.reduceBEq, setC, List.length_set, decide_eq_true_eq, decide_eq_false_iff_not, true_implies, false_implies, forall_const, reduceCtorEq, eq_self, Int.natCast_nonneg, Int.toNat_natCast, Int.ofNat_lt, D.int.injEq, Option.some.injEq, Nat.zero_add, Nat.add_zero, bne_iff_ne, bne_eq_false_iff_eq, beq_iff_eq, beq_eq_false_iff_ne, gt_iff_lt, ne_eq, not_true_eq_false, not_false_eq_true, planIds, hasExt, cntFs, idxFs, clnFs, ovlFs, List.contains_cons, List.contains_nil, List.any_cons, List.any_nil, Nat.reduceBEq, Nat.reduceMul, Nat.reduceAdd, ↓reduceIte, hal, h0, h1, h2, h13, ↓wo_callv, cv1, cv2, c3, c4, c5, c6, Tryd.f43]
  obtain ⟨r, T, ho, rfl, rfl⟩ := this
  rw [callV_obs rfl]
  exact callD_obs rfl (by simp [pureL_cons, D.pure]) ho rfl

theorem perm_list {α : Type} [Inhabited α] {d d' : Array α} (h : Sort.PermIn 0 d.size d d') : d'.toList.Perm d.toList := by
  obtain ⟨h1, -, h3⟩ := h
  have e1 : d'.extract 0 d.size = d' := by rw [← h1]; simp
  have e2 : d.extract 0 d.size = d := by simp
  rwa [e1, e2] at h3
theorem sorted_list {α : Type} [Inhabited α] {p : α → α → Bool} {d d' : Array α} (h : Sort.SortedIn p 0 d.size d') (hs : d'.size = d.size) : d'.toList.Pairwise fun x y => p y x = false := by
  rw [List.pairwise_iff_getElem]
  intro i j hi hj hij
  have hi' : i < d'.size := by simpa using hi
  have hj' : j < d'.size := by simpa using hj
  have := h i j (Nat.zero_le _) hij (by omega)
  simpa [hi', hj'] using this
section
variable {S : List Ob} {cf : D}
set_option maxHeartbeats 4000000 in
set_option maxRecDepth 100000 in
/-- A list of nothing is sorted. -/
theorem sort0_d {n : Nat} {d : D} (hcf : cf.pure = false) (hd : d = .nils ∨ ∃ k, d = .os k 0 0 false) (hn : 50 ≤ n) :
    WO (dcall E (n + 1) 42 [d, cf] S) fun _ T => T = S := by
  have hlen : dLen Tryd.prog S 43 d = some (.int .i64 0) := by
    rcases hd with rfl | ⟨k, rfl⟩
    · simp only [push_cast, dLen]
    · simp only [push_cast, dLen, Int.natCast_zero]
  obtain ⟨m, rfl⟩ : ∃ m, n = m + 1 + 1 := ⟨n - 2, by omega⟩
  obtain ⟨lim, bl⟩ := Srt.bl_c (n := m + 1 + 1) (l := 0) (by omega) (by omega)
  have c1 : WO (dcall E (m + 1) 78 [d, .int .i64 0, .int .i64 0, cf] S) fun _ T => T = S := by
    refine wo_dcall Tryd.func78 rfl (by decide) rfl 53 rfl (fun a hal ha => ?_)
    have h0 : a[0]? = some (d) := ha 0 (by simp)
    have h1 : a[1]? = some (.int .i64 0) := ha 1 (by simp)
    have h2 : a[2]? = some (.int .i64 0) := ha 2 (by simp)
    have h3 : a[3]? = some (cf) := ha 3 (by simp)
    clear ha
    simp (maxSteps := 1000000) (disch := omega) only [push_cast, ↓wc_seq, ↓wc_block, ↓wc_scope, ↓wc_condL, ↓wc_region, ↓wr_cons, ↓wr_consgL, ↓wr_nil, ↓wo_pickL, ↓wo_callf, ↓wc_exit, ↓wc_ret, ↓wc_skip, ↓wc_wl, wo_some, wo_none, wo_ite, opQ_eq, seqQ_normal, seqQ_exit, seqQ_ret, blockQ_normal, blockQ_exit, blockQ_ret, iterQ_normal, iterQ_exit, iterQ_ret, retQ_normal, retQ_ret, retQ_exit, pickC_true, pickC_false, pickO_true, pickO_false, gstep_tt, gstep_ff, gstep_tf, gstep_ft, gstep_skip, int_bne, int_beq, decide_not, Nat.reduceAdd, Nat.reduceMul, Nat.reduceSub, Nat.reducePow, Nat.reduceLT, Nat.reduceLeDiff, Nat.reduceEqDiff, Int.reduceToNat, Int.reduceAdd, Int.reduceSub, Int.reduceNeg, Int.reduceMul, Int.reduceLT, Int.reduceLE, Int.reduceEq, le_max, ↓wo_build, ↓wo_buildSlice, evParts, ↓reduceIte, planIds, hasExt, cntFs, idxFs, clnFs, ovlFs, List.contains_cons, List.contains_nil, List.any_cons, List.any_nil, Nat.reduceBEq, setC, List.length_set, decide_eq_true_eq, decide_eq_false_iff_not, true_implies, false_implies, forall_const, reduceCtorEq, eq_self, Int.natCast_nonneg, Int.toNat_natCast, Int.ofNat_lt, D.int.injEq, Option.some.injEq, Nat.zero_add, Nat.add_zero, bne_iff_ne, bne_eq_false_iff_eq, beq_iff_eq, beq_eq_false_iff_ne, gt_iff_lt, ne_eq, not_true_eq_false, not_false_eq_true, planIds, hasExt, cntFs, idxFs, clnFs, ovlFs, List.contains_cons, List.contains_nil, List.any_cons, List.any_nil, Nat.reduceBEq, Nat.reduceMul, Nat.reduceAdd, ↓reduceIte, hal, h0, h1, h2, h3, wrap_ok]
    refine wl_loop (fun r a T => r = 0 ∧ T = S ∧ a.length = 53 ∧ a[2]? = some (.int .i64 0) ∧ a[8]? = some (.int .i64 1)) 0 ?_ (by omega) ?_
    · simp (maxSteps := 1000000) (disch := omega) only [push_cast, ↓wc_seq, ↓wc_block, ↓wc_scope, ↓wc_condL, ↓wc_region, ↓wr_cons, ↓wr_consgL, ↓wr_nil, ↓wo_pickL, ↓wo_callf, ↓wc_exit, ↓wc_ret, ↓wc_skip, ↓wc_wl, wo_some, wo_none, wo_ite, opQ_eq, seqQ_normal, seqQ_exit, seqQ_ret, blockQ_normal, blockQ_exit, blockQ_ret, iterQ_normal, iterQ_exit, iterQ_ret, retQ_normal, retQ_ret, retQ_exit, pickC_true, pickC_false, pickO_true, pickO_false, gstep_tt, gstep_ff, gstep_tf, gstep_ft, gstep_skip, int_bne, int_beq, decide_not, Nat.reduceAdd, Nat.reduceMul, Nat.reduceSub, Nat.reducePow, Nat.reduceLT, Nat.reduceLeDiff, Nat.reduceEqDiff, Int.reduceToNat, Int.reduceAdd, Int.reduceSub, Int.reduceNeg, Int.reduceMul, Int.reduceLT, Int.reduceLE, Int.reduceEq, le_max, ↓wo_build, ↓wo_buildSlice, evParts, ↓reduceIte, planIds, hasExt, cntFs, idxFs, clnFs, ovlFs, List.contains_cons, List.contains_nil, List.any_cons, List.any_nil, Nat.reduceBEq, setC, List.length_set, decide_eq_true_eq, decide_eq_false_iff_not, true_implies, false_implies, forall_const, reduceCtorEq, eq_self, Int.natCast_nonneg, Int.toNat_natCast, Int.ofNat_lt, D.int.injEq, Option.some.injEq, Nat.zero_add, Nat.add_zero, bne_iff_ne, bne_eq_false_iff_eq, beq_iff_eq, beq_eq_false_iff_ne, gt_iff_lt, ne_eq, not_true_eq_false, not_false_eq_true, planIds, hasExt, cntFs, idxFs, clnFs, ovlFs, List.contains_cons, List.contains_nil, List.any_cons, List.any_nil, Nat.reduceBEq, Nat.reduceMul, Nat.reduceAdd, ↓reduceIte, hal, h0, h1, h2, h3, wrap_ok]
    clear hal h0 h1 h2 h3 a
    rintro r a T _ ⟨rfl, rfl, hal, h2, h8⟩
    simp (maxSteps := 1000000) (disch := omega) only [push_cast, ↓wc_seq, ↓wc_block, ↓wc_scope, ↓wc_condL, ↓wc_region, ↓wr_cons, ↓wr_consgL, ↓wr_nil, ↓wo_pickL, ↓wo_callf, ↓wc_exit, ↓wc_ret, ↓wc_skip, ↓wc_wl, wo_some, wo_none, wo_ite, opQ_eq, seqQ_normal, seqQ_exit, seqQ_ret, blockQ_normal, blockQ_exit, blockQ_ret, iterQ_normal, iterQ_exit, iterQ_ret, retQ_normal, retQ_ret, retQ_exit, pickC_true, pickC_false, pickO_true, pickO_false, gstep_tt, gstep_ff, gstep_tf, gstep_ft, gstep_skip, int_bne, int_beq, decide_not, Nat.reduceAdd, Nat.reduceMul, Nat.reduceSub, Nat.reducePow, Nat.reduceLT, Nat.reduceLeDiff, Nat.reduceEqDiff, Int.reduceToNat, Int.reduceAdd, Int.reduceSub, Int.reduceNeg, Int.reduceMul, Int.reduceLT, Int.reduceLE, Int.reduceEq, le_max, ↓wo_build, ↓wo_buildSlice, evParts, ↓reduceIte, planIds, hasExt, cntFs, idxFs, clnFs, ovlFs, List.contains_cons, List.contains_nil, List.any_cons, List.any_nil, Nat.reduceBEq, setC, List.length_set, decide_eq_true_eq, decide_eq_false_iff_not, true_implies, false_implies, forall_const, reduceCtorEq, eq_self, Int.natCast_nonneg, Int.toNat_natCast, Int.ofNat_lt, D.int.injEq, Option.some.injEq, Nat.zero_add, Nat.add_zero, bne_iff_ne, bne_eq_false_iff_eq, beq_iff_eq, beq_eq_false_iff_ne, gt_iff_lt, ne_eq, not_true_eq_false, not_false_eq_true, planIds, hasExt, cntFs, idxFs, clnFs, ovlFs, List.contains_cons, List.contains_nil, List.any_cons, List.any_nil, Nat.reduceBEq, Nat.reduceMul, Nat.reduceAdd, ↓reduceIte, hal, h2, h8, Tryd.f78]
  obtain ⟨r1, r2, c1, rfl⟩ := c1
  have c1 := (callD_own (f := 78) rfl (by simp [pureL_cons, hcf])).trans c1
  have c2 : WO (dcall E (m + 1 + 1) 67 [d, .int .i64 0, .int .i64 0, .int .i64 lim, cf] r2) fun _ T => T = r2 := by
    refine wo_dcall Tryd.func67 rfl (by decide) rfl 148 rfl (fun a hal ha => ?_)
    have h0 : a[0]? = some (d) := ha 0 (by simp)
    have h1 : a[1]? = some (.int .i64 0) := ha 1 (by simp)
    have h2 : a[2]? = some (.int .i64 0) := ha 2 (by simp)
    have h3 : a[3]? = some (.int .i64 lim) := ha 3 (by simp)
    have h4 : a[4]? = some (cf) := ha 4 (by simp)
    clear ha
    simp (maxSteps := 1000000) (disch := omega) only [push_cast, ↓wc_seq, ↓wc_block, ↓wc_scope, ↓wc_condL, ↓wc_region, ↓wr_cons, ↓wr_consgL, ↓wr_nil, ↓wo_pickL, ↓wo_callf, ↓wc_exit, ↓wc_ret, ↓wc_skip, ↓wc_wl, wo_some, wo_none, wo_ite, opQ_eq, seqQ_normal, seqQ_exit, seqQ_ret, blockQ_normal, blockQ_exit, blockQ_ret, iterQ_normal, iterQ_exit, iterQ_ret, retQ_normal, retQ_ret, retQ_exit, pickC_true, pickC_false, pickO_true, pickO_false, gstep_tt, gstep_ff, gstep_tf, gstep_ft, gstep_skip, int_bne, int_beq, decide_not, Nat.reduceAdd, Nat.reduceMul, Nat.reduceSub, Nat.reducePow, Nat.reduceLT, Nat.reduceLeDiff, Nat.reduceEqDiff, Int.reduceToNat, Int.reduceAdd, Int.reduceSub, Int.reduceNeg, Int.reduceMul, Int.reduceLT, Int.reduceLE, Int.reduceEq, le_max, ↓wo_build, ↓wo_buildSlice, evParts, ↓reduceIte, planIds, hasExt, cntFs, idxFs, clnFs, ovlFs, List.contains_cons, List.contains_nil, List.any_cons, List.any_nil, Nat.reduceBEq, setC, List.length_set, decide_eq_true_eq, decide_eq_false_iff_not, true_implies, false_implies, forall_const, reduceCtorEq, eq_self, Int.natCast_nonneg, Int.toNat_natCast, Int.ofNat_lt, D.int.injEq, Option.some.injEq, Nat.zero_add, Nat.add_zero, bne_iff_ne, bne_eq_false_iff_eq, beq_iff_eq, beq_eq_false_iff_ne, gt_iff_lt, ne_eq, not_true_eq_false, not_false_eq_true, planIds, hasExt, cntFs, idxFs, clnFs, ovlFs, List.contains_cons, List.contains_nil, List.any_cons, List.any_nil, Nat.reduceBEq, Nat.reduceMul, Nat.reduceAdd, ↓reduceIte, hal, h0, h1, h2, h3, h4]
    refine wl_loop (fun r a T' => r = 0 ∧ T' = r2 ∧ a.length = 148 ∧ a[0]? = some (d) ∧ a[1]? = some (.int .i64 0) ∧ a[2]? = some (.int .i64 0) ∧ a[3]? = some (.int .i64 lim) ∧ a[4]? = some (cf) ∧ a[10]? = some (.bool true) ∧ a[11]? = some (.bool true)) 0 ?_ (by omega) ?_
    · simp (maxSteps := 1000000) (disch := omega) only [push_cast, ↓wc_seq, ↓wc_block, ↓wc_scope, ↓wc_condL, ↓wc_region, ↓wr_cons, ↓wr_consgL, ↓wr_nil, ↓wo_pickL, ↓wo_callf, ↓wc_exit, ↓wc_ret, ↓wc_skip, ↓wc_wl, wo_some, wo_none, wo_ite, opQ_eq, seqQ_normal, seqQ_exit, seqQ_ret, blockQ_normal, blockQ_exit, blockQ_ret, iterQ_normal, iterQ_exit, iterQ_ret, retQ_normal, retQ_ret, retQ_exit, pickC_true, pickC_false, pickO_true, pickO_false, gstep_tt, gstep_ff, gstep_tf, gstep_ft, gstep_skip, int_bne, int_beq, decide_not, Nat.reduceAdd, Nat.reduceMul, Nat.reduceSub, Nat.reducePow, Nat.reduceLT, Nat.reduceLeDiff, Nat.reduceEqDiff, Int.reduceToNat, Int.reduceAdd, Int.reduceSub, Int.reduceNeg, Int.reduceMul, Int.reduceLT, Int.reduceLE, Int.reduceEq, le_max, ↓wo_build, ↓wo_buildSlice, evParts, ↓reduceIte, planIds, hasExt, cntFs, idxFs, clnFs, ovlFs, List.contains_cons, List.contains_nil, List.any_cons, List.any_nil, Nat.reduceBEq, setC, List.length_set, decide_eq_true_eq, decide_eq_false_iff_not, true_implies, false_implies, forall_const, reduceCtorEq, eq_self, Int.natCast_nonneg, Int.toNat_natCast, Int.ofNat_lt, D.int.injEq, Option.some.injEq, Nat.zero_add, Nat.add_zero, bne_iff_ne, bne_eq_false_iff_eq, beq_iff_eq, beq_eq_false_iff_ne, gt_iff_lt, ne_eq, not_true_eq_false, not_false_eq_true, planIds, hasExt, cntFs, idxFs, clnFs, ovlFs, List.contains_cons, List.contains_nil, List.any_cons, List.any_nil, Nat.reduceBEq, Nat.reduceMul, Nat.reduceAdd, ↓reduceIte, hal, h0, h1, h2, h3, h4]
    clear hal h0 h1 h2 h3 h4 a
    rintro r a T' _ ⟨rfl, rfl, hal, h0, h1, h2, h3, h4, h10, h11⟩
    simp (maxSteps := 1000000) (disch := omega) only [push_cast, ↓wc_seq, ↓wc_block, ↓wc_scope, ↓wc_condL, ↓wc_region, ↓wr_cons, ↓wr_consgL, ↓wr_nil, ↓wo_pickL, ↓wo_callf, ↓wc_exit, ↓wc_ret, ↓wc_skip, ↓wc_wl, wo_some, wo_none, wo_ite, opQ_eq, seqQ_normal, seqQ_exit, seqQ_ret, blockQ_normal, blockQ_exit, blockQ_ret, iterQ_normal, iterQ_exit, iterQ_ret, retQ_normal, retQ_ret, retQ_exit, pickC_true, pickC_false, pickO_true, pickO_false, gstep_tt, gstep_ff, gstep_tf, gstep_ft, gstep_skip, int_bne, int_beq, decide_not, Nat.reduceAdd, Nat.reduceMul, Nat.reduceSub, Nat.reducePow, Nat.reduceLT, Nat.reduceLeDiff, Nat.reduceEqDiff, Int.reduceToNat, Int.reduceAdd, Int.reduceSub, Int.reduceNeg, Int.reduceMul, Int.reduceLT, Int.reduceLE, Int.reduceEq, le_max, ↓wo_build, ↓wo_buildSlice, evParts, ↓reduceIte, planIds, hasExt, cntFs, idxFs, clnFs, ovlFs, List.contains_cons, List.contains_nil, List.any_cons, List.any_nil, Nat.reduceBEq, setC, List.length_set, decide_eq_true_eq, decide_eq_false_iff_not, true_implies, false_implies, forall_const, reduceCtorEq, eq_self, Int.natCast_nonneg, Int.toNat_natCast, Int.ofNat_lt, D.int.injEq, Option.some.injEq, Nat.zero_add, Nat.add_zero, bne_iff_ne, bne_eq_false_iff_eq, beq_iff_eq, beq_eq_false_iff_ne, gt_iff_lt, ne_eq, not_true_eq_false, not_false_eq_true, planIds, hasExt, cntFs, idxFs, clnFs, ovlFs, List.contains_cons, List.contains_nil, List.any_cons, List.any_nil, Nat.reduceBEq, Nat.reduceMul, Nat.reduceAdd, ↓reduceIte, hal, h0, h1, h2, h3, h4, h10, h11, wrap_ok, c1, Tryd.f67]
  obtain ⟨_, _, c2, rfl⟩ := c2
  have c2 := (callD_own (f := 67) rfl (by simp [pureL_cons, hcf])).trans c2
  have w1 : IntKind.u64.wrap 0 = 0 := rfl
  rw [Int.natCast_zero] at bl
  refine wo_dcall Tryd.func42 rfl (by decide) rfl 14 rfl (fun a hal ha => ?_)
  have h0 : a[0]? = some (d) := ha 0 (by simp)
  have h1 : a[1]? = some (cf) := ha 1 (by simp)
  clear ha
  rcases hd with rfl | ⟨k, rfl⟩
  · simp (maxSteps := 1000000) (disch := omega) only [push_cast, ↓wc_seq, ↓wc_block, ↓wc_scope, ↓wc_condL, ↓wc_region, ↓wr_cons, ↓wr_consgL, ↓wr_nil, ↓wo_pickL, ↓wo_callf, ↓wc_exit, ↓wc_ret, ↓wc_skip, ↓wc_wl, wo_some, wo_none, wo_ite, opQ_eq, seqQ_normal, seqQ_exit, seqQ_ret, blockQ_normal, blockQ_exit, blockQ_ret, iterQ_normal, iterQ_exit, iterQ_ret, retQ_normal, retQ_ret, retQ_exit, pickC_true, pickC_false, pickO_true, pickO_false, gstep_tt, gstep_ff, gstep_tf, gstep_ft, gstep_skip, int_bne, int_beq, decide_not, Nat.reduceAdd, Nat.reduceMul, Nat.reduceSub, Nat.reducePow, Nat.reduceLT, Nat.reduceLeDiff, Nat.reduceEqDiff, Int.reduceToNat, Int.reduceAdd, Int.reduceSub, Int.reduceNeg, Int.reduceMul, Int.reduceLT, Int.reduceLE, Int.reduceEq, le_max, ↓wo_build, ↓wo_buildSlice, evParts, ↓reduceIte, planIds, hasExt, cntFs, idxFs, clnFs, ovlFs, List.contains_cons, List.contains_nil, List.any_cons, List.any_nil, Nat.reduceBEq, setC, List.length_set, decide_eq_true_eq, decide_eq_false_iff_not, true_implies, false_implies, forall_const, reduceCtorEq, eq_self, Int.natCast_nonneg, Int.toNat_natCast, Int.ofNat_lt, D.int.injEq, Option.some.injEq, Nat.zero_add, Nat.add_zero, bne_iff_ne, bne_eq_false_iff_eq, beq_iff_eq, beq_eq_false_iff_ne, gt_iff_lt, ne_eq, not_true_eq_false, not_false_eq_true, planIds, hasExt, cntFs, idxFs, clnFs, ovlFs, List.contains_cons, List.contains_nil, List.any_cons, List.any_nil, Nat.reduceBEq, Nat.reduceMul, Nat.reduceAdd, ↓reduceIte, hal, h0, h1, w1, bl, c2, Tryd.f42]
  · simp (maxSteps := 1000000) (disch := omega) only [push_cast, ↓wc_seq, ↓wc_block, ↓wc_scope, ↓wc_condL, ↓wc_region, ↓wr_cons, ↓wr_consgL, ↓wr_nil, ↓wo_pickL, ↓wo_callf, ↓wc_exit, ↓wc_ret, ↓wc_skip, ↓wc_wl, wo_some, wo_none, wo_ite, opQ_eq, seqQ_normal, seqQ_exit, seqQ_ret, blockQ_normal, blockQ_exit, blockQ_ret, iterQ_normal, iterQ_exit, iterQ_ret, retQ_normal, retQ_ret, retQ_exit, pickC_true, pickC_false, pickO_true, pickO_false, gstep_tt, gstep_ff, gstep_tf, gstep_ft, gstep_skip, int_bne, int_beq, decide_not, Nat.reduceAdd, Nat.reduceMul, Nat.reduceSub, Nat.reducePow, Nat.reduceLT, Nat.reduceLeDiff, Nat.reduceEqDiff, Int.reduceToNat, Int.reduceAdd, Int.reduceSub, Int.reduceNeg, Int.reduceMul, Int.reduceLT, Int.reduceLE, Int.reduceEq, le_max, ↓wo_build, ↓wo_buildSlice, evParts, ↓reduceIte, planIds, hasExt, cntFs, idxFs, clnFs, ovlFs, List.contains_cons, List.contains_nil, List.any_cons, List.any_nil, Nat.reduceBEq, setC, List.length_set, decide_eq_true_eq, decide_eq_false_iff_not, true_implies, false_implies, forall_const, reduceCtorEq, eq_self, Int.natCast_nonneg, Int.toNat_natCast, Int.ofNat_lt, D.int.injEq, Option.some.injEq, Nat.zero_add, Nat.add_zero, bne_iff_ne, bne_eq_false_iff_eq, beq_iff_eq, beq_eq_false_iff_ne, gt_iff_lt, ne_eq, not_true_eq_false, not_false_eq_true, planIds, hasExt, cntFs, idxFs, clnFs, ovlFs, List.contains_cons, List.contains_nil, List.any_cons, List.any_nil, Nat.reduceBEq, Nat.reduceMul, Nat.reduceAdd, ↓reduceIte, hal, h0, h1, w1, bl, c2, Int.natCast_zero, Tryd.f42]
end
abbrev f1D (b6 : Nat) : D := .func 41 [] [.loc b6 0 0]
set_option maxHeartbeats 4000000 in
/-- The journeys are sorted. -/
theorem sortP_d {n ko b6 b13 : Nat} {o : List (Nat × List Nat)} {segs : List Sgm} {sgD : D} {S : List Ob} (hn : 2300 ≤ n) (ho : o.length ≤ 1024) (hne : o ≠ []) (hk : S[ko]? = some (.row 1 (o.map oRow))) (hg : ∀ q ∈ o, GoodQ S ko segs q)
    (h6 : S[b6]? = some (.row 1 [[sgD]])) (h6k : b6 ≠ ko) (h13 : S[b13]? = some (.row 1 [[f1D b6]])) (h13k : b13 ≠ ko) (hs : SegD S sgD segs) (hsk : own sgD ≠ some ko) :
    WO (dcall E (n + 1) 42 [.os ko 0 o.length false, .func 43 [] [.loc b13 0 0]] S) fun _ T => ∃ o' : List (Nat × List Nat), T[ko]? = some (.row 1 (o'.map oRow)) ∧ o'.Perm o ∧ (∀ j x, j ≠ ko → S[j]? = some x → T[j]? = some x) ∧ o'.Pairwise fun x y => ¬ ahd segs y.2 x.2 := by
  have hq0 : ∃ q, q ∈ o := by
    cases o with
    | nil => exact absurd rfl hne
    | cons q _ => exact ⟨q, by simp⟩
  obtain ⟨q0, hq0⟩ := hq0
  letI : Inhabited {q : Nat × List Nat // GoodQ S ko segs q} := ⟨⟨q0, hg q0 hq0⟩⟩
  let val : {q : Nat × List Nat // GoodQ S ko segs q} → D := fun x => .os x.1.1 0 x.1.2.length false
  let c : {q : Nat × List Nat // GoodQ S ko segs q} → {q : Nat × List Nat // GoodQ S ko segs q} → Int := fun x y => cmpP segs x.1.2 y.1.2
  let ds : List {q : Nat × List Nat // GoodQ S ko segs q} := o.attach.map fun x => ⟨x.1, hg x.1 x.2⟩
  have hds : ds.map (·.1) = o := by
    show (o.attach.map fun x => (⟨x.1, hg x.1 x.2⟩ : {q : Nat × List Nat // GoodQ S ko segs q})).map (·.1) = o
    rw [List.map_map]
    exact List.attach_map_subtype_val o
  have hlen : ds.toArray.size = o.length := by
    have := congrArg List.length hds
    rw [List.length_map] at this
    exact this
  have hrow : Srt.rowS val ds.toArray = o.map oRow := by
    show ds.map (fun x => [val x]) = o.map oRow
    generalize ds = ds at *
    rw [← hds, List.map_map]
    rfl
  have hR : Srt.R S ko val ds.toArray S := ⟨by rw [hrow]; exact hk, fun _ _ _ h => h, Nat.le_refl _⟩
  have hC : Srt.CmpOk 110 S ko val (.func 43 [] [.loc b13 0 0]) c := by
    intro n hn d T hT st x y
    refine ord_c hn (hT.old _ _ x.2.ne x.2.row) (hT.old _ _ y.2.ne y.2.row) x.2.len y.2.len x.2.non y.2.non x.2.ind y.2.ind (hT.old _ _ h6k h6) (hT.old _ _ h13k h13) (hs.keep fun k o hk' ho' => hT.old _ _ (fun e => hsk (by rw [hk', e])) ho') st
  have hlt : ∀ x y, Srt.lt c x y = true ↔ ahd segs x.1.2 y.1.2 := fun x y => by
    unfold Srt.lt
    rw [decide_eq_true_eq]
    exact cmpP_lt
  have hltf : ∀ x y, Srt.lt c x y = false ↔ ¬ ahd segs x.1.2 y.1.2 := fun x y => by
    rw [← hlt, Bool.not_eq_true]
  have hO : Sort.SWO (Srt.lt c) := by
    refine ⟨fun x => ?_, fun x y z h1 h2 => ?_, fun x y z h1 h2 => ?_⟩
    · rw [hltf]; exact ahd_irrefl _
    · rw [hlt] at *; exact ahd_trans h1 h2
    · rw [hltf] at *
      intro h
      rcases ahd_tri (segs := segs) x.1.2 y.1.2 with h' | h' | h'
      · exact h1 h'
      · rw [h'] at h; exact h2 h
      · exact h2 (ahd_trans h' h)
  obtain ⟨r, T, hT, d', r1, p1, s1⟩ := Srt.sort_d (x := false) (n := n) (fun _ => rfl) hC hO (by rw [hlen]; omega) (by rw [hlen]; omega) hR
  rw [hlen] at hT
  refine ⟨r, T, hT, d'.toList.map (·.1), ?_, ?_, r1.old, ?_⟩
  · rw [r1.row]
    unfold Srt.rowS
    rw [List.map_map]; rfl
  · have := (perm_list p1).map (·.1)
    rwa [show ds.toArray.toList = ds from rfl, hds] at this
  · have := sorted_list s1 p1.1
    rw [List.pairwise_map]
    exact this.imp fun h => (hltf _ _).1 h

theorem pure_own' {kk n : Nat} {x : Bool} {l : List D} : pureL (.os kk 0 n x :: l) = false := by simp [pureL_cons, D.pure]
theorem dfs_mem {l segs fr to} : ∀ {m : Nat} {p q : List Nat}, (∀ j ∈ p, j < segs.length) → q ∈ dfs l segs fr to m p → (∀ j ∈ q, j < segs.length) ∧ q ≠ [] ∧ p.length < q.length ∧ q.length ≤ p.length + m
  | 0, p, q, _, h => by simp [dfs] at h
  | m + 1, p, q, hp, h => by
    rw [dfs, List.mem_flatMap] at h
    obtain ⟨i, hi, h⟩ := h
    have hil := List.mem_range.1 hi
    have hpi : ∀ j ∈ p ++ [i], j < segs.length := fun j hj => by
      rcases List.mem_append.1 hj with h | h
      · exact hp j h
      · obtain rfl : j = i := by simpa using h
        exact hil
    split at h
    · split at h
      · obtain rfl : q = p ++ [i] := by simpa using h
        exact ⟨hpi, by simp, by simp, by simp⟩
      · obtain ⟨a, b, c, d⟩ := dfs_mem hpi h
        simp only [List.length_append, List.length_cons, List.length_nil] at c d
        exact ⟨a, b, by omega, by omega⟩
    · simp at h
/-- What Paths hands back. -/
def PathsR (l : List Cnn) (segs : List Sgm) (fr to : ByteArray) (mo : Int) (r : D) (T : List Ob) : Prop :=
  ((mo < 1 ∨ 3 < mo) ∧ r = .tup [.nils, .int .i64 2]) ∨
  ∃ m : Nat, mo = ((m + 1 : Nat) : Int) ∧ m ≤ 2 ∧
    ((1024 < (dfs l segs fr to (m + 1) []).length ∧ r = .tup [.nils, .int .i64 4]) ∨
     ((dfs l segs fr to (m + 1) []).length ≤ 1024 ∧ ∃ d o, r = .tup [d, .int .i64 0] ∧ GL 1 oRow T d o ∧ (∀ q ∈ o, T[q.1]? = some (.row 1 (q.2.map fun a => [intV a]))) ∧ (o.map (·.2)).Perm (dfs l segs fr to (m + 1) []) ∧ (o.map (·.2)).Pairwise fun x y => ¬ ahd segs y x))
set_option maxHeartbeats 8000000 in
set_option maxRecDepth 100000 in
theorem Paths_d {n : Nat} {l : List Cnn} {segs : List Sgm} {lD sgD : D} {fr to : ByteArray} {mo : Int} {S : List Ob} (hn : segs.length + l.length + 2500 ≤ n) (hFit : ∀ n, l.length + 40 ≤ n → ∀ st S a b, Near a → Near b → callD E (dcall E n) st S 15 [lD, .agg a.enc, .agg b.enc] = some (.bool (fitB l a b), S)) (hl1 : lD.one = true) (hg1 : sgD.one = true) (hnear : ∀ s ∈ segs, Near s) (hsl : segs.length ≤ 200) (hs : SegD S sgD segs) :
    WO (dcall E (n + 1) 20 [lD, sgD, .str fr, .str to, .int .i64 mo] S) fun r T => PathsR l segs fr to mo r T := by
  have cvl := Srt.cells_one hl1
  have cvs := Srt.cells_one hg1
  simp only [D.cells] at cvl cvs
  have ovl := hl1
  have ovs := hg1
  simp only [D.one] at ovl ovs
  refine wo_dcall Tryd.func20 rfl (by decide) rfl 47 rfl (fun a hal ha => ?_)
  have h0 : a[0]? = some (lD) := ha 0 (by simp)
  have h1 : a[1]? = some (sgD) := ha 1 (by simp)
  have h2 : a[2]? = some (.str fr) := ha 2 (by simp)
  have h3 : a[3]? = some (.str to) := ha 3 (by simp)
  have h4 : a[4]? = some (.int .i64 mo) := ha 4 (by simp)
  clear ha
  by_cases g1 : mo < 1
  · simp (maxSteps := 1000000) (disch := omega) only [push_cast, ↓wc_seq, ↓wc_block, ↓wc_scope, ↓wc_condL, ↓wc_region, ↓wr_cons, ↓wr_consgL, ↓wr_nil, ↓wo_pickL, ↓wo_callf, ↓wc_exit, ↓wc_ret, ↓wc_skip, ↓wc_wl, wo_some, wo_none, wo_ite, opQ_eq, seqQ_normal, seqQ_exit, seqQ_ret, blockQ_normal, blockQ_exit, blockQ_ret, iterQ_normal, iterQ_exit, iterQ_ret, retQ_normal, retQ_ret, retQ_exit, pickC_true, pickC_false, pickO_true, pickO_false, gstep_tt, gstep_ff, gstep_tf, gstep_ft, gstep_skip, int_bne, int_beq, decide_not, Nat.reduceAdd, Nat.reduceMul, Nat.reduceSub, Nat.reducePow, Nat.reduceLT, Nat.reduceLeDiff, Nat.reduceEqDiff, Int.reduceToNat, Int.reduceAdd, Int.reduceSub, Int.reduceNeg, Int.reduceMul, Int.reduceLT, Int.reduceLE, Int.reduceEq, le_max, ↓wo_build, ↓wo_buildSlice, evParts, ↓reduceIte, planIds, hasExt, cntFs, idxFs, clnFs, ovlFs, List.contains_cons, List.contains_nil, List.any_cons, List.any_nil, Nat.reduceBEq, setC, List.length_set, decide_eq_true_eq, decide_eq_false_iff_not, true_implies, false_implies, forall_const, reduceCtorEq, eq_self, Int.natCast_nonneg, Int.toNat_natCast, Int.ofNat_lt, D.int.injEq, Option.some.injEq, Nat.zero_add, Nat.add_zero, bne_iff_ne, bne_eq_false_iff_eq, beq_iff_eq, beq_eq_false_iff_ne, gt_iff_lt, ne_eq, not_true_eq_false, not_false_eq_true, planIds, hasExt, cntFs, idxFs, clnFs, ovlFs, List.contains_cons, List.contains_nil, List.any_cons, List.any_nil, Nat.reduceBEq, Nat.reduceMul, Nat.reduceAdd, ↓reduceIte, hal, h0, h1, h2, h3, h4, g1, cvs, ovs, Tryd.f20]
    exact .inl ⟨.inl g1, rfl⟩
  by_cases g2 : 3 < mo
  · simp (maxSteps := 1000000) (disch := omega) only [push_cast, ↓wc_seq, ↓wc_block, ↓wc_scope, ↓wc_condL, ↓wc_region, ↓wr_cons, ↓wr_consgL, ↓wr_nil, ↓wo_pickL, ↓wo_callf, ↓wc_exit, ↓wc_ret, ↓wc_skip, ↓wc_wl, wo_some, wo_none, wo_ite, opQ_eq, seqQ_normal, seqQ_exit, seqQ_ret, blockQ_normal, blockQ_exit, blockQ_ret, iterQ_normal, iterQ_exit, iterQ_ret, retQ_normal, retQ_ret, retQ_exit, pickC_true, pickC_false, pickO_true, pickO_false, gstep_tt, gstep_ff, gstep_tf, gstep_ft, gstep_skip, int_bne, int_beq, decide_not, Nat.reduceAdd, Nat.reduceMul, Nat.reduceSub, Nat.reducePow, Nat.reduceLT, Nat.reduceLeDiff, Nat.reduceEqDiff, Int.reduceToNat, Int.reduceAdd, Int.reduceSub, Int.reduceNeg, Int.reduceMul, Int.reduceLT, Int.reduceLE, Int.reduceEq, le_max, ↓wo_build, ↓wo_buildSlice, evParts, ↓reduceIte, planIds, hasExt, cntFs, idxFs, clnFs, ovlFs, List.contains_cons, List.contains_nil, List.any_cons, List.any_nil, Nat.reduceBEq, setC, List.length_set, decide_eq_true_eq, decide_eq_false_iff_not, true_implies, false_implies, forall_const, reduceCtorEq, eq_self, Int.natCast_nonneg, Int.toNat_natCast, Int.ofNat_lt, D.int.injEq, Option.some.injEq, Nat.zero_add, Nat.add_zero, bne_iff_ne, bne_eq_false_iff_eq, beq_iff_eq, beq_eq_false_iff_ne, gt_iff_lt, ne_eq, not_true_eq_false, not_false_eq_true, planIds, hasExt, cntFs, idxFs, clnFs, ovlFs, List.contains_cons, List.contains_nil, List.any_cons, List.any_nil, Nat.reduceBEq, Nat.reduceMul, Nat.reduceAdd, ↓reduceIte, hal, h0, h1, h2, h3, h4, g1, g2, gt_iff_lt, cvs, ovs, Tryd.f20]
    exact .inl ⟨.inr g2, rfl⟩
  obtain ⟨m, hm, hm2⟩ : ∃ m : Nat, mo = ((m + 1 : Nat) : Int) ∧ m ≤ 2 := ⟨mo.toNat - 1, by omega, by omega⟩
  obtain ⟨most, hmost⟩ : ∃ most, most = m + 1 := ⟨_, rfl⟩
  rw [← hmost] at hm
  subst hm
  have fin : ∀ r T, ((1024 < (dfs l segs fr to (m + 1) []).length ∧ r = .tup [.nils, .int .i64 4]) ∨ ((dfs l segs fr to (m + 1) []).length ≤ 1024 ∧ ∃ d o, r = .tup [d, .int .i64 0] ∧ GL 1 oRow T d o ∧ (∀ q ∈ o, T[q.1]? = some (.row 1 (q.2.map fun a => [intV a]))) ∧ (o.map (·.2)).Perm (dfs l segs fr to (m + 1) []) ∧ (o.map (·.2)).Pairwise fun x y => ¬ ahd segs y x)) → PathsR l segs fr to most r T := fun r T h => .inr ⟨m, by rw [hmost], hm2, h⟩
  obtain ⟨b6, hb6⟩ : ∃ b6, b6 = S.length := ⟨_, rfl⟩
  refine wc_scut (fun a T => a.length = 47 ∧ a[0]? = some (lD) ∧ a[2]? = some (.str fr) ∧ a[3]? = some (.str to) ∧ a[4]? = some (.int .i64 most) ∧ a[6]? = some (.loc b6 0 0) ∧ T = S ++ [.row 1 [[sgD]]]) ?_ ?_
  · subst hb6
    simp (maxSteps := 1000000) (disch := omega) only [push_cast, ↓wc_seq, ↓wc_block, ↓wc_scope, ↓wc_condL, ↓wc_region, ↓wr_cons, ↓wr_consgL, ↓wr_nil, ↓wo_pickL, ↓wo_callf, ↓wc_exit, ↓wc_ret, ↓wc_skip, ↓wc_wl, wo_some, wo_none, wo_ite, opQ_eq, seqQ_normal, seqQ_exit, seqQ_ret, blockQ_normal, blockQ_exit, blockQ_ret, iterQ_normal, iterQ_exit, iterQ_ret, retQ_normal, retQ_ret, retQ_exit, pickC_true, pickC_false, pickO_true, pickO_false, gstep_tt, gstep_ff, gstep_tf, gstep_ft, gstep_skip, int_bne, int_beq, decide_not, Nat.reduceAdd, Nat.reduceMul, Nat.reduceSub, Nat.reducePow, Nat.reduceLT, Nat.reduceLeDiff, Nat.reduceEqDiff, Int.reduceToNat, Int.reduceAdd, Int.reduceSub, Int.reduceNeg, Int.reduceMul, Int.reduceLT, Int.reduceLE, Int.reduceEq, le_max, ↓wo_build, ↓wo_buildSlice, evParts, ↓reduceIte, planIds, hasExt, cntFs, idxFs, clnFs, ovlFs, List.contains_cons, List.contains_nil, List.any_cons, List.any_nil, Nat.reduceBEq, setC, List.length_set, decide_eq_true_eq, decide_eq_false_iff_not, true_implies, false_implies, forall_const, reduceCtorEq, eq_self, Int.natCast_nonneg, Int.toNat_natCast, Int.ofNat_lt, D.int.injEq, Option.some.injEq, Nat.zero_add, Nat.add_zero, bne_iff_ne, bne_eq_false_iff_eq, beq_iff_eq, beq_eq_false_iff_ne, gt_iff_lt, ne_eq, not_true_eq_false, not_false_eq_true, planIds, hasExt, cntFs, idxFs, clnFs, ovlFs, List.contains_cons, List.contains_nil, List.any_cons, List.any_nil, Nat.reduceBEq, Nat.reduceMul, Nat.reduceAdd, ↓reduceIte, hal, h0, h1, h2, h3, h4, cvs, ovs, List.length_cons, List.length_nil]
  clear hal h0 h1 h2 h3 h4 a
  rintro a T1 ⟨hal, h0, h2, h3, h4, h6, hT1⟩
  have k6 : T1[b6]? = some (.row 1 [[sgD]]) := by rw [hT1, hb6]; exact get_end
  have hs1 : SegD T1 sgD segs := hs.keep fun k o _ ho => by rw [hT1]; exact get_old ho
  have hsk : ∀ k, own sgD = some k → k < S.length := fun k hk => by
    rcases hs with ⟨rfl, -⟩ | ⟨x, rfl⟩ | ⟨k', rfl, h2⟩
    · cases hk
    · cases hk
    · cases hk; exact (List.getElem?_eq_some_iff.1 h2).1
  have hT1l : T1.length = S.length + 1 := by rw [hT1]; simp
  obtain ⟨X, hX⟩ : ∃ X, X = T1.length := ⟨_, rfl⟩
  rw [wc_asc]
  refine wc_scut (fun a T => a.length = 47 ∧ a[6]? = some (.loc b6 0 0) ∧ a[12]? = some (.loc X 0 0) ∧ T = T1 ++ [xRow lD sgD to most .nils (.sl 1 [[.str fr]] true) .nils]) ?_ ?_
  · unfold xRow
    subst hX
    simp (maxSteps := 1000000) (disch := omega) only [push_cast, ↓wc_seq, ↓wc_block, ↓wc_scope, ↓wc_condL, ↓wc_region, ↓wr_cons, ↓wr_consgL, ↓wr_nil, ↓wo_pickL, ↓wo_callf, ↓wc_exit, ↓wc_ret, ↓wc_skip, ↓wc_wl, wo_some, wo_none, wo_ite, opQ_eq, seqQ_normal, seqQ_exit, seqQ_ret, blockQ_normal, blockQ_exit, blockQ_ret, iterQ_normal, iterQ_exit, iterQ_ret, retQ_normal, retQ_ret, retQ_exit, pickC_true, pickC_false, pickO_true, pickO_false, gstep_tt, gstep_ff, gstep_tf, gstep_ft, gstep_skip, int_bne, int_beq, decide_not, Nat.reduceAdd, Nat.reduceMul, Nat.reduceSub, Nat.reducePow, Nat.reduceLT, Nat.reduceLeDiff, Nat.reduceEqDiff, Int.reduceToNat, Int.reduceAdd, Int.reduceSub, Int.reduceNeg, Int.reduceMul, Int.reduceLT, Int.reduceLE, Int.reduceEq, le_max, ↓wo_build, ↓wo_buildSlice, evParts, ↓reduceIte, planIds, hasExt, cntFs, idxFs, clnFs, ovlFs, List.contains_cons, List.contains_nil, List.any_cons, List.any_nil, Nat.reduceBEq, setC, List.length_set, decide_eq_true_eq, decide_eq_false_iff_not, true_implies, false_implies, forall_const, reduceCtorEq, eq_self, Int.natCast_nonneg, Int.toNat_natCast, Int.ofNat_lt, D.int.injEq, Option.some.injEq, Nat.zero_add, Nat.add_zero, bne_iff_ne, bne_eq_false_iff_eq, beq_iff_eq, beq_eq_false_iff_ne, gt_iff_lt, ne_eq, not_true_eq_false, not_false_eq_true, planIds, hasExt, cntFs, idxFs, clnFs, ovlFs, List.contains_cons, List.contains_nil, List.any_cons, List.any_nil, Nat.reduceBEq, Nat.reduceMul, Nat.reduceAdd, ↓reduceIte, hal, h0, h2, h3, h4, h6, g1, g2, gt_iff_lt, k6, cvl, cvs, ovl, ovs, set_end, get_end]
  clear hal h0 h2 h3 h4 h6 a
  rintro a T2 ⟨hal, h6, h12, hT2⟩
  have k6 : T2[b6]? = some (.row 1 [[sgD]]) := by rw [hT2]; exact get_old k6
  have hs2 : SegD T2 sgD segs := hs1.keep fun k o _ ho => by rw [hT2]; exact get_old ho
  obtain ⟨z0, hz0⟩ : ∃ z0 : Zs, z0 = ⟨.nils, .sl 1 [[.str fr]] true, .nils, []⟩ := ⟨_, rfl⟩
  have hgood : SGood lD sgD to most X (stopsL fr segs []) T2 [] z0 := by
    rw [hz0]
    refine ⟨by rw [hT2, hX]; exact get_end, .inl ⟨rfl, rfl⟩, .inr (.inl rfl), .inl ⟨rfl, rfl⟩, .inl ⟨rfl, rfl, fr, rfl, rfl⟩, by simp [own], by simp [own], by simp [own], by simp [own], by simp [own], by simp⟩
  have hmine : ∀ j, mine X z0 j → j = X := fun j h => by
    rw [hz0] at h
    rcases h with h | h | h | h
    · exact h
    · simp [own] at h
    · simp [own] at h
    · simp [own] at h
  obtain ⟨n', hn'⟩ : ∃ n', n = n' + 1 := ⟨n - 1, by omega⟩
  obtain ⟨_, T3, c1, z1, r1, r2, r3, r4⟩ := ext_d hFit hl1 hg1 hnear hsl (by omega) m (n := n') (p := []) (S := T2) (z := z0) (by simp; omega) (by simp) (fun k hk h => by have := hmine k h; have := hsk k hk; omega) hgood hs2 (by rw [hz0]; simp) (by omega)
  rw [← hn'] at c1
  have c1 := (callD_own (f := 40) rfl loc_own).trans c1
  have k6 : T3[b6]? = some (.row 1 [[sgD]]) := r3.old _ _ (fun h => by have := hmine _ h; omega) k6
  have hb6X : b6 ≠ X := by omega
  rw [hz0] at r4
  simp only [Zs.outs, List.map_nil, List.nil_append] at r4
  have hol : z1.o.length = min 1025 (dfs l segs fr to (m + 1) []).length := by
    have := congrArg List.length r4
    rwa [List.length_map, List.length_take] at this
  refine wc_scut (fun a T => T = T3 ∧ a.length = 47 ∧ a[6]? = some (.loc b6 0 0) ∧ a[12]? = some (.loc X 0 0)) ?_ ?_
  · simp (maxSteps := 1000000) (disch := omega) only [push_cast, ↓wc_seq, ↓wc_block, ↓wc_scope, ↓wc_condL, ↓wc_region, ↓wr_cons, ↓wr_consgL, ↓wr_nil, ↓wo_pickL, ↓wo_callf, ↓wc_exit, ↓wc_ret, ↓wc_skip, ↓wc_wl, wo_some, wo_none, wo_ite, opQ_eq, seqQ_normal, seqQ_exit, seqQ_ret, blockQ_normal, blockQ_exit, blockQ_ret, iterQ_normal, iterQ_exit, iterQ_ret, retQ_normal, retQ_ret, retQ_exit, pickC_true, pickC_false, pickO_true, pickO_false, gstep_tt, gstep_ff, gstep_tf, gstep_ft, gstep_skip, int_bne, int_beq, decide_not, Nat.reduceAdd, Nat.reduceMul, Nat.reduceSub, Nat.reducePow, Nat.reduceLT, Nat.reduceLeDiff, Nat.reduceEqDiff, Int.reduceToNat, Int.reduceAdd, Int.reduceSub, Int.reduceNeg, Int.reduceMul, Int.reduceLT, Int.reduceLE, Int.reduceEq, le_max, ↓wo_build, ↓wo_buildSlice, evParts, ↓reduceIte, planIds, hasExt, cntFs, idxFs, clnFs, ovlFs, List.contains_cons, List.contains_nil, List.any_cons, List.any_nil, Nat.reduceBEq, setC, List.length_set, decide_eq_true_eq, decide_eq_false_iff_not, true_implies, false_implies, forall_const, reduceCtorEq, eq_self, Int.natCast_nonneg, Int.toNat_natCast, Int.ofNat_lt, D.int.injEq, Option.some.injEq, Nat.zero_add, Nat.add_zero, bne_iff_ne, bne_eq_false_iff_eq, beq_iff_eq, beq_eq_false_iff_ne, gt_iff_lt, ne_eq, not_true_eq_false, not_false_eq_true, planIds, hasExt, cntFs, idxFs, clnFs, ovlFs, List.contains_cons, List.contains_nil, List.any_cons, List.any_nil, Nat.reduceBEq, Nat.reduceMul, Nat.reduceAdd, ↓reduceIte, hal, h6, h12, c1]
  clear hal h6 h12 a
  clear c1
  rintro a T3 ⟨rfl, hal, h6, h12⟩
  have hX3 := r1.row
  unfold xRow at hX3
  have hXl : X < T3.length := (List.getElem?_eq_some_iff.1 hX3).1
  have hs3 : SegD T3 sgD segs := r2
  obtain ⟨b13, hb13⟩ : ∃ b, b = T3.length := ⟨_, rfl⟩
  have hX4 : (T3 ++ [Ob.row 1 [[f1D b6]]])[X]? = _ := get_old hX3
  have k13 : (T3 ++ [Ob.row 1 [[f1D b6]]])[b13]? = some (.row 1 [[f1D b6]]) := by rw [hb13]; exact get_end
  have k6 : (T3 ++ [Ob.row 1 [[f1D b6]]])[b6]? = some (.row 1 [[sgD]]) := get_old k6
  have hs4 : SegD (T3 ++ [Ob.row 1 [[f1D b6]]]) sgD segs := hs3.keep fun k o _ ho => get_old ho
  -- a list of nothing
  have empty : ∀ d, z1.dO = d → z1.o = [] → (d = .nils ∨ ∃ k, d = .os k 0 0 false) → ∃ r T, callD E (dcall E n) false (T3 ++ [Ob.row 1 [[f1D b6]]]) 42 [d, .func 43 [] [.loc b13 0 0]] = some (r, T) ∧ T = T3 ++ [Ob.row 1 [[f1D b6]]] := fun d hd he hsh => by
    obtain ⟨r, T, hT, rfl⟩ := sort0_d (n := n') (S := T3 ++ [Ob.row 1 [[f1D b6]]]) (cf := .func 43 [] [.loc b13 0 0]) (by simp [D.pure, pureL_cons]) hsh (by omega)
    rw [← hn'] at hT
    exact ⟨r, _, (callD_own (f := 42) rfl (by simp [pureL_cons, D.pure])).trans hT, rfl⟩
  have hdz : z1.o = [] → (dfs l segs fr to (m + 1) []) = [] := fun h => by
    rw [h] at r4 hol
    simp only [List.length_nil] at hol
    exact List.length_eq_zero_iff.1 (by omega)
  have fin0 : z1.o = [] → ∀ r T, (∃ d, r = .tup [d, .int .i64 0] ∧ GL 1 oRow T d ([] : List (Nat × List Nat))) → PathsR l segs fr to most r T := fun h r T ⟨d, h1, h2⟩ => fin r T (.inr ⟨by rw [hdz h]; simp, d, [], h1, h2, by simp, by rw [hdz h]; simp, by simp⟩)
  rcases r1.out with ⟨hdo, hoe⟩ | ⟨ko, hdo, hko⟩
  · obtain ⟨_, T5, c1, rfl⟩ := empty _ hdo hoe (.inl rfl)
    rw [hdo] at hX3 hX4
    subst hb13
    simp (maxSteps := 1000000) (disch := omega) only [push_cast, ↓wc_seq, ↓wc_block, ↓wc_scope, ↓wc_condL, ↓wc_region, ↓wr_cons, ↓wr_consgL, ↓wr_nil, ↓wo_pickL, ↓wo_callf, ↓wc_exit, ↓wc_ret, ↓wc_skip, ↓wc_wl, wo_some, wo_none, wo_ite, opQ_eq, seqQ_normal, seqQ_exit, seqQ_ret, blockQ_normal, blockQ_exit, blockQ_ret, iterQ_normal, iterQ_exit, iterQ_ret, retQ_normal, retQ_ret, retQ_exit, pickC_true, pickC_false, pickO_true, pickO_false, gstep_tt, gstep_ff, gstep_tf, gstep_ft, gstep_skip, int_bne, int_beq, decide_not, Nat.reduceAdd, Nat.reduceMul, Nat.reduceSub, Nat.reducePow, Nat.reduceLT, Nat.reduceLeDiff, Nat.reduceEqDiff, Int.reduceToNat, Int.reduceAdd, Int.reduceSub, Int.reduceNeg, Int.reduceMul, Int.reduceLT, Int.reduceLE, Int.reduceEq, le_max, ↓wo_build, ↓wo_buildSlice, evParts, ↓reduceIte, planIds, hasExt, cntFs, idxFs, clnFs, ovlFs, List.contains_cons, List.contains_nil, List.any_cons, List.any_nil, Nat.reduceBEq, setC, List.length_set, decide_eq_true_eq, decide_eq_false_iff_not, true_implies, false_implies, forall_const, reduceCtorEq, eq_self, Int.natCast_nonneg, Int.toNat_natCast, Int.ofNat_lt, D.int.injEq, Option.some.injEq, Nat.zero_add, Nat.add_zero, bne_iff_ne, bne_eq_false_iff_eq, beq_iff_eq, beq_eq_false_iff_ne, gt_iff_lt, ne_eq, not_true_eq_false, not_false_eq_true, planIds, hasExt, cntFs, idxFs, clnFs, ovlFs, List.contains_cons, List.contains_nil, List.any_cons, List.any_nil, Nat.reduceBEq, Nat.reduceMul, Nat.reduceAdd, ↓reduceIte, hal, h6, h12, hX3, hX4, set_end, get_end, c1, Tryd.f20]
    exact fin0 hoe _ _ ⟨_, rfl, .inl ⟨rfl, rfl⟩⟩
  rw [hdo] at hX3 hX4
  by_cases g3 : 1024 < z1.o.length
  · have g3' : (1024 : Int) < (z1.o.length : Int) := by omega
    simp (maxSteps := 1000000) (disch := omega) only [push_cast, ↓wc_seq, ↓wc_block, ↓wc_scope, ↓wc_condL, ↓wc_region, ↓wr_cons, ↓wr_consgL, ↓wr_nil, ↓wo_pickL, ↓wo_callf, ↓wc_exit, ↓wc_ret, ↓wc_skip, ↓wc_wl, wo_some, wo_none, wo_ite, opQ_eq, seqQ_normal, seqQ_exit, seqQ_ret, blockQ_normal, blockQ_exit, blockQ_ret, iterQ_normal, iterQ_exit, iterQ_ret, retQ_normal, retQ_ret, retQ_exit, pickC_true, pickC_false, pickO_true, pickO_false, gstep_tt, gstep_ff, gstep_tf, gstep_ft, gstep_skip, int_bne, int_beq, decide_not, Nat.reduceAdd, Nat.reduceMul, Nat.reduceSub, Nat.reducePow, Nat.reduceLT, Nat.reduceLeDiff, Nat.reduceEqDiff, Int.reduceToNat, Int.reduceAdd, Int.reduceSub, Int.reduceNeg, Int.reduceMul, Int.reduceLT, Int.reduceLE, Int.reduceEq, le_max, ↓wo_build, ↓wo_buildSlice, evParts, ↓reduceIte, planIds, hasExt, cntFs, idxFs, clnFs, ovlFs, List.contains_cons, List.contains_nil, List.any_cons, List.any_nil, Nat.reduceBEq, setC, List.length_set, decide_eq_true_eq, decide_eq_false_iff_not, true_implies, false_implies, forall_const, reduceCtorEq, eq_self, Int.natCast_nonneg, Int.toNat_natCast, Int.ofNat_lt, D.int.injEq, Option.some.injEq, Nat.zero_add, Nat.add_zero, bne_iff_ne, bne_eq_false_iff_eq, beq_iff_eq, beq_eq_false_iff_ne, gt_iff_lt, ne_eq, not_true_eq_false, not_false_eq_true, planIds, hasExt, cntFs, idxFs, clnFs, ovlFs, List.contains_cons, List.contains_nil, List.any_cons, List.any_nil, Nat.reduceBEq, Nat.reduceMul, Nat.reduceAdd, ↓reduceIte, hal, h6, h12, hX3, g3', Tryd.f20]
    exact fin _ _ (.inl ⟨by omega, rfl⟩)
  have g3' : ¬ (1024 : Int) < (z1.o.length : Int) := by omega
  have hdl : (dfs l segs fr to (m + 1) []).length ≤ 1024 := by omega
  have houts : z1.o.map (·.2) = dfs l segs fr to (m + 1) [] := by rw [r4, List.take_of_length_le (by omega)]
  by_cases hoe : z1.o = []
  · have hko0 : z1.o.length = 0 := by rw [hoe]; rfl
    rw [hko0] at hX3 hX4 hdo
    obtain ⟨_, T5, c1, rfl⟩ := empty _ hdo hoe (.inr ⟨ko, rfl⟩)
    subst hb13
    simp (maxSteps := 1000000) (disch := omega) only [push_cast, ↓wc_seq, ↓wc_block, ↓wc_scope, ↓wc_condL, ↓wc_region, ↓wr_cons, ↓wr_consgL, ↓wr_nil, ↓wo_pickL, ↓wo_callf, ↓wc_exit, ↓wc_ret, ↓wc_skip, ↓wc_wl, wo_some, wo_none, wo_ite, opQ_eq, seqQ_normal, seqQ_exit, seqQ_ret, blockQ_normal, blockQ_exit, blockQ_ret, iterQ_normal, iterQ_exit, iterQ_ret, retQ_normal, retQ_ret, retQ_exit, pickC_true, pickC_false, pickO_true, pickO_false, gstep_tt, gstep_ff, gstep_tf, gstep_ft, gstep_skip, int_bne, int_beq, decide_not, Nat.reduceAdd, Nat.reduceMul, Nat.reduceSub, Nat.reducePow, Nat.reduceLT, Nat.reduceLeDiff, Nat.reduceEqDiff, Int.reduceToNat, Int.reduceAdd, Int.reduceSub, Int.reduceNeg, Int.reduceMul, Int.reduceLT, Int.reduceLE, Int.reduceEq, le_max, ↓wo_build, ↓wo_buildSlice, evParts, ↓reduceIte, planIds, hasExt, cntFs, idxFs, clnFs, ovlFs, List.contains_cons, List.contains_nil, List.any_cons, List.any_nil, Nat.reduceBEq, setC, List.length_set, decide_eq_true_eq, decide_eq_false_iff_not, true_implies, false_implies, forall_const, reduceCtorEq, eq_self, Int.natCast_nonneg, Int.toNat_natCast, Int.ofNat_lt, D.int.injEq, Option.some.injEq, Nat.zero_add, Nat.add_zero, bne_iff_ne, bne_eq_false_iff_eq, beq_iff_eq, beq_eq_false_iff_ne, gt_iff_lt, ne_eq, not_true_eq_false, not_false_eq_true, planIds, hasExt, cntFs, idxFs, clnFs, ovlFs, List.contains_cons, List.contains_nil, List.any_cons, List.any_nil, Nat.reduceBEq, Nat.reduceMul, Nat.reduceAdd, ↓reduceIte, hal, h6, h12, hX3, hX4, set_end, get_end, c1, Int.natCast_zero, Tryd.f20]
    exact fin0 hoe _ _ ⟨_, rfl, .inr ⟨ko, rfl, get_old (by rw [hko, hoe])⟩⟩
  have hokX : ko ≠ X := fun e => r1.ne3 (by rw [hdo, e]; rfl)
  have hkol : ko < T3.length := (List.getElem?_eq_some_iff.1 hko).1
  have hnew : ko = X ∨ T2.length ≤ ko := by
    rcases r3.new ko (.inr (.inr (.inr (by rw [hdo]; rfl)))) with h | h
    · exact .inl (hmine _ h)
    · exact .inr h
  have hT2l : T2.length = S.length + 2 := by rw [hT2]; simp; omega
  obtain ⟨_, T5, c1, o', q1, q2, q3, q4⟩ := sortP_d (n := n') (ko := ko) (b6 := b6) (b13 := b13) (o := z1.o) (segs := segs) (sgD := sgD) (S := T3 ++ [Ob.row 1 [[f1D b6]]]) (by omega) (by omega) hoe (get_old hko) (fun q hq => by
      obtain ⟨m1, m2⟩ := r1.rows q hq
      have hmem : q.2 ∈ dfs l segs fr to (m + 1) [] := by rw [← houts]; exact List.mem_map_of_mem hq
      obtain ⟨e1, e2, e3, e4⟩ := dfs_mem (by simp) hmem
      exact ⟨get_old m2, fun e => m1 (.inr (.inr (.inr (by rw [hdo, e]; rfl)))), e2, e1, by simp only [List.length_nil] at e4; omega⟩) k6 (by omega) k13 (by omega) hs4 (fun e => by have := hsk _ e; omega)
  rw [← hn'] at c1
  have c1 := (callD_own (f := 42) rfl pure_own').trans c1
  have hX5 := q3 X _ (Ne.symm hokX) hX4
  subst hb13
  simp (maxSteps := 1000000) (disch := omega) only [push_cast, ↓wc_seq, ↓wc_block, ↓wc_scope, ↓wc_condL, ↓wc_region, ↓wr_cons, ↓wr_consgL, ↓wr_nil, ↓wo_pickL, ↓wo_callf, ↓wc_exit, ↓wc_ret, ↓wc_skip, ↓wc_wl, wo_some, wo_none, wo_ite, opQ_eq, seqQ_normal, seqQ_exit, seqQ_ret, blockQ_normal, blockQ_exit, blockQ_ret, iterQ_normal, iterQ_exit, iterQ_ret, retQ_normal, retQ_ret, retQ_exit, pickC_true, pickC_false, pickO_true, pickO_false, gstep_tt, gstep_ff, gstep_tf, gstep_ft, gstep_skip, int_bne, int_beq, decide_not, Nat.reduceAdd, Nat.reduceMul, Nat.reduceSub, Nat.reducePow, Nat.reduceLT, Nat.reduceLeDiff, Nat.reduceEqDiff, Int.reduceToNat, Int.reduceAdd, Int.reduceSub, Int.reduceNeg, Int.reduceMul, Int.reduceLT, Int.reduceLE, Int.reduceEq, le_max, ↓wo_build, ↓wo_buildSlice, evParts, ↓reduceIte, planIds, hasExt, cntFs, idxFs, clnFs, ovlFs, List.contains_cons, List.contains_nil, List.any_cons, List.any_nil, Nat.reduceBEq, setC, List.length_set, decide_eq_true_eq, decide_eq_false_iff_not, true_implies, false_implies, forall_const, reduceCtorEq, eq_self, Int.natCast_nonneg, Int.toNat_natCast, Int.ofNat_lt, D.int.injEq, Option.some.injEq, Nat.zero_add, Nat.add_zero, bne_iff_ne, bne_eq_false_iff_eq, beq_iff_eq, beq_eq_false_iff_ne, gt_iff_lt, ne_eq, not_true_eq_false, not_false_eq_true, planIds, hasExt, cntFs, idxFs, clnFs, ovlFs, List.contains_cons, List.contains_nil, List.any_cons, List.any_nil, Nat.reduceBEq, Nat.reduceMul, Nat.reduceAdd, ↓reduceIte, hal, h6, h12, hX3, hX4, g3', set_end, get_end, c1, hX5, Tryd.f20]
  refine fin _ _ (.inr ⟨hdl, _, o', rfl, .inr ⟨ko, by rw [q2.length_eq], q1⟩, fun q hq => ?_, ?_, ?_⟩)
  · obtain ⟨m1, m2⟩ := r1.rows q (q2.subset hq)
    exact q3 _ _ (fun e => m1 (.inr (.inr (.inr (by rw [hdo, e]; rfl))))) (get_old m2)
  · rw [← houts]; exact q2.map _
  · rw [List.pairwise_map]; exact q4
end Go.Proofs.YtgomkmamgflbeaaDoor.Dm
