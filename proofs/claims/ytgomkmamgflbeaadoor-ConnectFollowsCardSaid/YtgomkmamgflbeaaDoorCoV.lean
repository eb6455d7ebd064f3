/-
  The machine at the check of a journey: Valid, the program's and the reference's.
-/
import Derived.Test.YtgomkmamgflbeaaDoorPlA
import Derived.Test.YtgomkmamgflbeaaDoorCoE
namespace Go.Proofs.YtgomkmamgflbeaaDoor.Dm
open Go Gw
set_option linter.unusedSimpArgs false

def isF (p : Plc) (s : ByteArray) : Bool := (p.aps.find? fun a => a.code.toList == s.toList).isSome
theorem find_at {n : Nat} {p : Plc} (s : ByteArray) (hn : p.aps.length + 1 < n) (hz : p.aps.length ≤ 9223372036854775800) : ∃ (r0 r1 r2 r3 r4 : D), [r0, r1, r2, r3, r4].all D.one = true ∧ ∀ st S, callD E (dcall E n) st S 37 [.agg p.enc, .str s] = some (.tup [.agg [r0, r1, r2, r3, r4], .bool (isF p s)], S) := by
  have h := Find_c (n := n) (p := p) (s := s) hn hz
  unfold isF
  cases hf : (p.aps.find? fun a => a.code.toList == s.toList) with
  | none => rw [hf] at h; exact ⟨_, _, _, _, _, rfl, h⟩
  | some a => rw [hf] at h; exact ⟨_, _, _, _, _, rfl, h⟩
theorem rfind_at {n : Nat} {p : Plc} (s : ByteArray) (hn : p.aps.length + 1 < n) (hz : p.aps.length ≤ 9223372036854775800) : ∃ (r0 r1 r2 r3 r4 : D), [r0, r1, r2, r3, r4].all D.one = true ∧ ∀ st S, callD E (dcall E n) st S 23 [.agg p.enc, .str s] = some (.tup [.agg [r0, r1, r2, r3, r4], .bool (isF p s)], S) := by
  have h := rFind_c (n := n) (p := p) (s := s) hn hz
  unfold isF
  cases hf : (p.aps.find? fun a => a.code.toList == s.toList) with
  | none => rw [hf] at h; exact ⟨_, _, _, _, _, rfl, h⟩
  | some a => rw [hf] at h; exact ⟨_, _, _, _, _, rfl, h⟩
/-- The error of a segment behind another one. -/
def stepE (p : Plc) (l : List Cnn) (a b : Sgm) : Int :=
  if (a.t.toList == b.f.toList) = true then (if b.dep - a.arr < minL a.t a.c b.c l then 13 else 0)
  else if ((cityS p a.t).toList == (cityS p b.f).toList) = true then (if b.dep - a.arr < 240 then 13 else 0) else 15
set_option maxHeartbeats 4000000 in
set_option maxRecDepth 100000 in
theorem follows_c {n : Nat} {p : Plc} {l : List Cnn} {x : Bool} {sa sb : Sgm} (hn : 200 ≤ n) (hpl : p.aps.length ≤ 100) (hl : l.length ≤ 100) (ha : Near sa) (hb : Near sb) (st : Bool) (S : List Ob) :
    callD E (dcall E n) st S 38 [.agg p.enc, .sl 4 (l.map Cnn.enc) x, .agg sa.enc, .agg sb.enc] = some (.int .i64 (stepE p l sa sb), S) := by
  obtain ⟨m, rfl⟩ : ∃ m, n = m + 1 := ⟨n - 1, by omega⟩
  obtain ⟨w1, w2, w3, w4⟩ := ha
  obtain ⟨v1, v2, v3, v4⟩ := hb
  have cm := Minutes_c (n := m) (l := l) (x := x) (p := sa.t) (q := sa.c) (r := sb.c) (by omega) (by omega)
  have c1 := City_c (n := m) (p := p) (s := sa.t) (by omega) (by omega)
  have c2 := City_c (n := m) (p := p) (s := sb.f) (by omega) (by omega)
  have : WO (dcall E (m + 1) 38 [.agg p.enc, .sl 4 (l.map Cnn.enc) x, .agg sa.enc, .agg sb.enc] []) fun d T => d = .int .i64 (stepE p l sa sb) := by
    refine wo_dcall Tryd.func38 rfl (by decide) rfl 39 rfl (fun a hal ha => ?_)
    have h0 : a[0]? = some (.agg p.enc) := ha 0 (by simp)
    have h1 : a[1]? = some (.sl 4 (l.map Cnn.enc) x) := ha 1 (by simp)
    have h2 : a[2]? = some (.agg sa.enc) := ha 2 (by simp)
    have h3 : a[3]? = some (.agg sb.enc) := ha 3 (by simp)
    clear ha
    have hpe : p.enc = [.sl 5 (p.aps.map Apt.enc) p.apsx, .sl 3 (p.dts.map Dst.enc) p.dtsx] := rfl
    simp only [Sgm.enc] at h2 h3
    rw [hpe] at h0 c1 c2
    obtain ⟨r, hr⟩ : ∃ r, stepE p l sa sb = r := ⟨_, rfl⟩
    rw [hr]
    unfold stepE at hr
    generalize minL sa.t sa.c sb.c l = mi at *
    generalize cityS p sa.t = u1 at *
    generalize cityS p sb.f = u2 at *
    have hw : IntKind.i64.wrap (sb.dep - sa.arr) = sb.dep - sa.arr := wrap_ok (by omega) (by omega)
    cases e1 : (sa.t.toList == sb.f.toList)
    · rw [e1, if_neg (by simp)] at hr
      cases e2 : (u1.toList == u2.toList)
      · rw [e2, if_neg (by simp)] at hr
        subst hr
        simp (maxSteps := 1000000) (disch := omega) only [push_cast, ↓wc_seq, ↓wc_block, ↓wc_scope, ↓wc_condL, ↓wc_region, ↓wr_cons, ↓wr_consgL, ↓wr_nil, ↓wo_pickL, ↓wo_callf, ↓wc_exit, ↓wc_ret, ↓wc_skip, ↓wc_wl, wo_some, wo_none, wo_ite, opQ_eq, seqQ_normal, seqQ_exit, seqQ_ret, blockQ_normal, blockQ_exit, blockQ_ret, iterQ_normal, iterQ_exit, iterQ_ret, retQ_normal, retQ_ret, retQ_exit, pickC_true, pickC_false, pickO_true, pickO_false, gstep_tt, gstep_ff, gstep_tf, gstep_ft, gstep_skip, int_bne, int_beq, decide_not, Nat.reduceAdd, Nat.reduceMul, Nat.reduceSub, Nat.reducePow, Nat.reduceLT, Nat.reduceLeDiff, Nat.reduceEqDiff, Int.reduceToNat, Int.reduceAdd, Int.reduceSub, Int.reduceNeg, Int.reduceMul, Int.reduceLT, Int.reduceLE, Int.reduceEq, le_max, ↓wo_build, ↓wo_buildSlice, evParts, ↓reduceIte, planIds, hasExt, cntFs, idxFs, clnFs, ovlFs, List.contains_cons, List.contains_nil, List.any_cons, List.any_nil, Nat.reduceBEq, setC, List.length_set, decide_eq_true_eq, decide_eq_false_iff_not, true_implies, false_implies, forall_const, reduceCtorEq, eq_self, Int.natCast_nonneg, Int.toNat_natCast, Int.ofNat_lt, D.int.injEq, Option.some.injEq, Nat.zero_add, Nat.add_zero, bne_iff_ne, bne_eq_false_iff_eq, beq_iff_eq, beq_eq_false_iff_ne, gt_iff_lt, ne_eq, not_true_eq_false, not_false_eq_true, planIds, hasExt, cntFs, idxFs, clnFs, ovlFs, List.contains_cons, List.contains_nil, List.any_cons, List.any_nil, Nat.reduceBEq, Nat.reduceMul, Nat.reduceAdd, ↓reduceIte, hal, h0, h1, h2, h3, e1, c1, c2, e2, Tryd.f38]
      · rw [e2, if_pos rfl] at hr
        by_cases e3 : sb.dep - sa.arr < 240
        · rw [if_pos e3] at hr
          subst hr
          simp (maxSteps := 1000000) (disch := omega) only [push_cast, ↓wc_seq, ↓wc_block, ↓wc_scope, ↓wc_condL, ↓wc_region, ↓wr_cons, ↓wr_consgL, ↓wr_nil, ↓wo_pickL, ↓wo_callf, ↓wc_exit, ↓wc_ret, ↓wc_skip, ↓wc_wl, wo_some, wo_none, wo_ite, opQ_eq, seqQ_normal, seqQ_exit, seqQ_ret, blockQ_normal, blockQ_exit, blockQ_ret, iterQ_normal, iterQ_exit, iterQ_ret, retQ_normal, retQ_ret, retQ_exit, pickC_true, pickC_false, pickO_true, pickO_false, gstep_tt, gstep_ff, gstep_tf, gstep_ft, gstep_skip, int_bne, int_beq, decide_not, Nat.reduceAdd, Nat.reduceMul, Nat.reduceSub, Nat.reducePow, Nat.reduceLT, Nat.reduceLeDiff, Nat.reduceEqDiff, Int.reduceToNat, Int.reduceAdd, Int.reduceSub, Int.reduceNeg, Int.reduceMul, Int.reduceLT, Int.reduceLE, Int.reduceEq, le_max, ↓wo_build, ↓wo_buildSlice, evParts, ↓reduceIte, planIds, hasExt, cntFs, idxFs, clnFs, ovlFs, List.contains_cons, List.contains_nil, List.any_cons, List.any_nil, Nat.reduceBEq, setC, List.length_set, decide_eq_true_eq, decide_eq_false_iff_not, true_implies, false_implies, forall_const, reduceCtorEq, eq_self, Int.natCast_nonneg, Int.toNat_natCast, Int.ofNat_lt, D.int.injEq, Option.some.injEq, Nat.zero_add, Nat.add_zero, bne_iff_ne, bne_eq_false_iff_eq, beq_iff_eq, beq_eq_false_iff_ne, gt_iff_lt, ne_eq, not_true_eq_false, not_false_eq_true, planIds, hasExt, cntFs, idxFs, clnFs, ovlFs, List.contains_cons, List.contains_nil, List.any_cons, List.any_nil, Nat.reduceBEq, Nat.reduceMul, Nat.reduceAdd, ↓reduceIte, hal, h0, h1, h2, h3, e1, c1, c2, e2, hw, e3, Tryd.f38]
        · rw [if_neg e3] at hr
          subst hr
          simp (maxSteps := 1000000) (disch := omega) only [push_cast, ↓wc_seq, ↓wc_block, ↓wc_scope, ↓wc_condL, ↓wc_region, ↓wr_cons, ↓wr_consgL, ↓wr_nil, ↓wo_pickL, ↓wo_callf, ↓wc_exit, ↓wc_ret, ↓wc_skip, ↓wc_wl, wo_some, wo_none, wo_ite, opQ_eq, seqQ_normal, seqQ_exit, seqQ_ret, blockQ_normal, blockQ_exit, blockQ_ret, iterQ_normal, iterQ_exit, iterQ_ret, retQ_normal, retQ_ret, retQ_exit, pickC_true, pickC_false, pickO_true, pickO_false, gstep_tt, gstep_ff, gstep_tf, gstep_ft, gstep_skip, int_bne, int_beq, decide_not, Nat.reduceAdd, Nat.reduceMul, Nat.reduceSub, Nat.reducePow, Nat.reduceLT, Nat.reduceLeDiff, Nat.reduceEqDiff, Int.reduceToNat, Int.reduceAdd, Int.reduceSub, Int.reduceNeg, Int.reduceMul, Int.reduceLT, Int.reduceLE, Int.reduceEq, le_max, ↓wo_build, ↓wo_buildSlice, evParts, ↓reduceIte, planIds, hasExt, cntFs, idxFs, clnFs, ovlFs, List.contains_cons, List.contains_nil, List.any_cons, List.any_nil, Nat.reduceBEq, setC, List.length_set, decide_eq_true_eq, decide_eq_false_iff_not, true_implies, false_implies, forall_const, reduceCtorEq, eq_self, Int.natCast_nonneg, Int.toNat_natCast, Int.ofNat_lt, D.int.injEq, Option.some.injEq, Nat.zero_add, Nat.add_zero, bne_iff_ne, bne_eq_false_iff_eq, beq_iff_eq, beq_eq_false_iff_ne, gt_iff_lt, ne_eq, not_true_eq_false, not_false_eq_true, planIds, hasExt, cntFs, idxFs, clnFs, ovlFs, List.contains_cons, List.contains_nil, List.any_cons, List.any_nil, Nat.reduceBEq, Nat.reduceMul, Nat.reduceAdd, ↓reduceIte, hal, h0, h1, h2, h3, e1, c1, c2, e2, hw, e3, Tryd.f38]
    · rw [e1, if_pos rfl] at hr
      by_cases e3 : sb.dep - sa.arr < mi
      · rw [if_pos e3] at hr
        subst hr
        simp (maxSteps := 1000000) (disch := omega) only [push_cast, ↓wc_seq, ↓wc_block, ↓wc_scope, ↓wc_condL, ↓wc_region, ↓wr_cons, ↓wr_consgL, ↓wr_nil, ↓wo_pickL, ↓wo_callf, ↓wc_exit, ↓wc_ret, ↓wc_skip, ↓wc_wl, wo_some, wo_none, wo_ite, opQ_eq, seqQ_normal, seqQ_exit, seqQ_ret, blockQ_normal, blockQ_exit, blockQ_ret, iterQ_normal, iterQ_exit, iterQ_ret, retQ_normal, retQ_ret, retQ_exit, pickC_true, pickC_false, pickO_true, pickO_false, gstep_tt, gstep_ff, gstep_tf, gstep_ft, gstep_skip, int_bne, int_beq, decide_not, Nat.reduceAdd, Nat.reduceMul, Nat.reduceSub, Nat.reducePow, Nat.reduceLT, Nat.reduceLeDiff, Nat.reduceEqDiff, Int.reduceToNat, Int.reduceAdd, Int.reduceSub, Int.reduceNeg, Int.reduceMul, Int.reduceLT, Int.reduceLE, Int.reduceEq, le_max, ↓wo_build, ↓wo_buildSlice, evParts, ↓reduceIte, planIds, hasExt, cntFs, idxFs, clnFs, ovlFs, List.contains_cons, List.contains_nil, List.any_cons, List.any_nil, Nat.reduceBEq, setC, List.length_set, decide_eq_true_eq, decide_eq_false_iff_not, true_implies, false_implies, forall_const, reduceCtorEq, eq_self, Int.natCast_nonneg, Int.toNat_natCast, Int.ofNat_lt, D.int.injEq, Option.some.injEq, Nat.zero_add, Nat.add_zero, bne_iff_ne, bne_eq_false_iff_eq, beq_iff_eq, beq_eq_false_iff_ne, gt_iff_lt, ne_eq, not_true_eq_false, not_false_eq_true, planIds, hasExt, cntFs, idxFs, clnFs, ovlFs, List.contains_cons, List.contains_nil, List.any_cons, List.any_nil, Nat.reduceBEq, Nat.reduceMul, Nat.reduceAdd, ↓reduceIte, hal, h0, h1, h2, h3, e1, cm, hw, e3, Tryd.f38]
      · rw [if_neg e3] at hr
        subst hr
        simp (maxSteps := 1000000) (disch := omega) only [push_cast, ↓wc_seq, ↓wc_block, ↓wc_scope, ↓wc_condL, ↓wc_region, ↓wr_cons, ↓wr_consgL, ↓wr_nil, ↓wo_pickL, ↓wo_callf, ↓wc_exit, ↓wc_ret, ↓wc_skip, ↓wc_wl, wo_some, wo_none, wo_ite, opQ_eq, seqQ_normal, seqQ_exit, seqQ_ret, blockQ_normal, blockQ_exit, blockQ_ret, iterQ_normal, iterQ_exit, iterQ_ret, retQ_normal, retQ_ret, retQ_exit, pickC_true, pickC_false, pickO_true, pickO_false, gstep_tt, gstep_ff, gstep_tf, gstep_ft, gstep_skip, int_bne, int_beq, decide_not, Nat.reduceAdd, Nat.reduceMul, Nat.reduceSub, Nat.reducePow, Nat.reduceLT, Nat.reduceLeDiff, Nat.reduceEqDiff, Int.reduceToNat, Int.reduceAdd, Int.reduceSub, Int.reduceNeg, Int.reduceMul, Int.reduceLT, Int.reduceLE, Int.reduceEq, le_max, ↓wo_build, ↓wo_buildSlice, evParts, ↓reduceIte, planIds, hasExt, cntFs, idxFs, clnFs, ovlFs, List.contains_cons, List.contains_nil, List.any_cons, List.any_nil, Nat.reduceBEq, setC, List.length_set, decide_eq_true_eq, decide_eq_false_iff_not, true_implies, false_implies, forall_const, reduceCtorEq, eq_self, Int.natCast_nonneg, Int.toNat_natCast, Int.ofNat_lt, D.int.injEq, Option.some.injEq, Nat.zero_add, Nat.add_zero, bne_iff_ne, bne_eq_false_iff_eq, beq_iff_eq, beq_eq_false_iff_ne, gt_iff_lt, ne_eq, not_true_eq_false, not_false_eq_true, planIds, hasExt, cntFs, idxFs, clnFs, ovlFs, List.contains_cons, List.contains_nil, List.any_cons, List.any_nil, Nat.reduceBEq, Nat.reduceMul, Nat.reduceAdd, ↓reduceIte, hal, h0, h1, h2, h3, e1, cm, hw, e3, Tryd.f38]
  obtain ⟨d, T, ho, rfl⟩ := this
  exact callD_pure rfl (by simp [pureL_cons, pureL_nil, D.pure, Plc_pure, cnn_pure, Sgm.enc]) ho rfl
/-- The error of a segment with the one ahead of it. -/
def vstep (p : Plc) (l : List Cnn) (pr : Option Sgm) (s : Sgm) : Int :=
  if isF p s.f = false ∨ isF p s.t = false then 14 else if s.arr ≤ s.dep then 13 else match pr with
  | none => 0
  | some a => stepE p l a s
def validF (p : Plc) (l : List Cnn) : Option Sgm → List Sgm → Int
  | _, [] => 0
  | pr, s :: r => if vstep p l pr s = 0 then validF p l (some s) r else vstep p l pr s
def validE (p : Plc) (l : List Cnn) (segs : List Sgm) : Int := if segs.length < 1 ∨ 6 < segs.length then 4 else validF p l none segs
def prv (segs : List Sgm) : Nat → Option Sgm
  | 0 => none
  | i + 1 => segs[i]?
end Go.Proofs.YtgomkmamgflbeaaDoor.Dm
