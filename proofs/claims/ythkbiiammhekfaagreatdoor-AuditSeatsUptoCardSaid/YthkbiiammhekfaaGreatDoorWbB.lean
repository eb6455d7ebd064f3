/-
  The reference's violations of configurations of any size: a list, and empty only where the configurations are small.
-/
import Derived.Test.YthkbiiammhekfaaGreatDoorWbA
set_option linter.unusedSimpArgs false
set_option linter.unusedVariables false
namespace Go.Proofs.YthkbiiammhekfaaGreatDoor.Dm
open Go Gw
set_option linter.unusedSimpArgs false
set_option linter.unusedSimpArgs false
namespace Wb

/-- A list of violations that grows: at most so many. -/
def FN (T : List Ob) (a : Option D) (m : Nat) : Prop := ∃ d fs, a = some d ∧ GL 2 encF T d fs ∧ fs.length ≤ m
/-- Besides, it is not empty. -/
def FN1 (T : List Ob) (a : Option D) (m : Nat) : Prop := ∃ d fs, a = some d ∧ GL 2 encF T d fs ∧ fs.length ≤ m ∧ fs ≠ []
/-- One more, perhaps. -/
theorem app_w {T : List Ob} {d : D} {fs : List (Int × ByteArray)} (h : GL 2 encF T d fs) (hl : fs.length ≤ 4999999999999) (b : Bool) (e : Int) (s : ByteArray) :
    ∃ d' T' fs', (b = true → dAppend Tryz.prog T 27 27 d (.sl 2 [[.int .i64 e, .str s]] true) = some (d', T')) ∧ (b = false → d' = d ∧ T' = T) ∧ GL 2 encF T' d' fs' ∧ fs'.length ≤ fs.length + 1 ∧ (b = true ∨ fs ≠ [] → fs' ≠ []) ∧ KeepF T T' := by
  obtain ⟨d', T', h1, h2, h3, h4⟩ := app_if h (by omega) b e s
  refine ⟨d', T', _, h1, h2, h3, by rw [List.length_append]; have := ifF_len b e s; omega, ?_, h4⟩
  rintro (hb | hb)
  · rw [hb, ifF, if_pos rfl]; simp
  · simp [hb]
set_option maxHeartbeats 16000000 in
set_option maxRecDepth 100000 in
theorem classesW_d {n k : Nat} {c : Cfg} {y : Cab} {p : ByteArray} (hn : 3000000 ≤ n) (hc : CfgB c) (hy : c.cabs[k]? = some y) (hp : p.size ≤ 900) :
    WO (dcall E (n + 1) 98 [.agg c.enc, .int .i64 k, .str p] []) fun d T => ∃ fs, GL 2 encF T d fs ∧ fs.length ≤ 3 * y.cls.length := by
  have hkl : k < c.cabs.length := lt_of_get hy
  have hym := List.mem_of_getElem? hy
  have hly := hc.cls y hym
  refine wo_dcall Tryz.func98 rfl (by decide) rfl 86 rfl (fun a hal ha => ?_)
  have h0 : a[0]? = some (.agg c.enc) := ha 0 (by simp)
  have h1 : a[1]? = some (.int .i64 k) := ha 1 (by simp)
  have h2 : a[2]? = some (.str p) := ha 2 (by simp)
  clear ha
  simp only [Cfg.enc] at h0
  simp (maxSteps := 1000000) (disch := omega) only [push_cast, ↓wc_seq, ↓wc_block, ↓wc_region, ↓wr_cons, ↓wr_nil, ↓wc_wl, wo_some, opQ_eq, seqQ_normal, Nat.reduceAdd, Nat.reduceMul, Nat.reduceLT, Nat.reduceLeDiff, Nat.reduceEqDiff, ↓reduceIte, planIds, List.contains_cons, List.contains_nil, Nat.reduceBEq, setC, List.length_set, eq_self, Int.natCast_nonneg, Int.toNat_natCast, Nat.zero_add, hal, h0, h1, hy, List.getElem?_map, Cab.enc]
  refine wl_loop (fun j a T => (T[0]? = some (.row 2 [[.str c.equip, .sl 4 (c.cabs.map Cab.enc) c.cabsx]]) ∧ T[1]? = some (cabR y) ∧ FN T a[7]? (3 * j)) ∧ a.length = 86 ∧ a[1]? = some (.int .i64 k) ∧ a[2]? = some (.str p) ∧ a[3]? = some (.loc 0 0 0) ∧ a[8]? = some (.loc 1 0 0) ∧ a[9]? = some (.int .i64 j)) y.cls.length ?_ (by omega) ?_
  · simp (maxSteps := 1000000) (disch := omega) only [push_cast, Nat.reduceMul, Nat.reduceLT, Nat.reduceEqDiff, ↓reduceIte, setC, List.length_set, eq_self, Option.some.injEq, hal, h1, h2, Int.natCast_zero, FN]
    exact ⟨_, _, rfl, GL.nil, Nat.zero_le _⟩
  clear hal h0 h1 h2 a
  rintro j a T hj ⟨⟨hT0, hT1, d, fs, h7, hg, hfl⟩, hal, h1, h2, h3, h8, h9⟩
  rcases Nat.lt_or_eq_of_le hj with hlt | rfl
  case inr =>
    simp (maxSteps := 1000000) (disch := omega) only [push_cast, ↓wc_seq, ↓wc_condL, ↓wc_region, ↓wr_cons, ↓wr_nil, ↓wc_exit, ↓wc_ret, wo_some, opQ_eq, seqQ_normal, seqQ_exit, blockQ_exit, iterQ_exit, retQ_ret, pickC_false, Nat.reduceAdd, Nat.reduceMul, Nat.reduceLT, Nat.reduceEqDiff, ↓reduceIte, planIds, List.contains_cons, List.contains_nil, Nat.reduceBEq, setC, List.length_set, eq_self, Int.ofNat_lt, Nat.zero_add, hal, h7, h8, h9, Nat.lt_irrefl, hT1, List.length_map, Tryz.f98]
    exact ⟨fs, hg, hfl⟩
  obtain ⟨z, hz⟩ : ∃ z, y.cls[j]? = some z := ⟨y.cls[j], by simp⟩
  have hzz := hc.cl y hym z (List.mem_of_getElem? hz)
  obtain ⟨q, hq, cp⟩ := placeW (n := n) (i := j) (p := p) (w := ByteArray.mk #[99, 108, 97, 115, 115]) (by omega) (by omega) hp (by decide)
  have cc := r01_class (n := n) (s := z.code) (by omega) (by omega)
  obtain ⟨bo, co⟩ := occW (n := n) (by omega) hc hy hz
  have cr := rRng_c (n := n) (by omega) y
  obtain ⟨va, ca⟩ := rAuthW (n := n) (by omega) y
  have hca : c.enc = [.str c.equip, .sl 4 (c.cabs.map Cab.enc) c.cabsx] := rfl
  rw [hca] at co
  have hcb : y.enc = [.str y.name, .int .i64 y.seats, .int .i64 y.over, .sl 2 (y.cls.map Cls.enc) y.clsx] := rfl
  rw [hcb] at cr ca
  obtain ⟨S0, hS0⟩ : ∃ S0, S0 = T ++ [Ob.row 2 [[.str z.code, .int .i64 z.prot]]] := ⟨_, rfl⟩
  have k0 : KeepF T S0 := by rw [hS0]; exact KeepF.push
  have g0 : S0[T.length]? = some (.row 2 [[.str z.code, .int .i64 z.prot]]) := by rw [hS0]; exact get_end
  have hg0 : GL 2 encF S0 d fs := by rw [hS0]; exact hg.push _
  have v0 := k0 0 _ not_fault2 hT0
  have v1 := k0 1 _ not_fault4 hT1
  refine wc_scut (fun a T' => T' = T ∧ a.length = 86 ∧ a[1]? = some (.int .i64 k) ∧ a[2]? = some (.str p) ∧ a[3]? = some (.loc 0 0 0) ∧ a[7]? = some (d) ∧ a[8]? = some (.loc 1 0 0) ∧ a[9]? = some (.int .i64 j)) ?_ ?_
  · simp (maxSteps := 1000000) (disch := omega) only [push_cast, ↓wc_seq, ↓wc_condL, ↓wc_region, ↓wr_cons, ↓wr_nil, ↓wc_skip, wo_some, opQ_eq, seqQ_normal, pickC_true, Nat.reduceAdd, Nat.reduceMul, Nat.reduceLT, Nat.reduceEqDiff, ↓reduceIte, planIds, List.contains_cons, List.contains_nil, Nat.reduceBEq, setC, List.length_set, eq_self, Int.ofNat_lt, Nat.zero_add, hal, h1, h2, h3, h7, h8, h9, hlt, hT1, List.length_map]
  clear hal h1 h2 h3 h7 h8 h9 a
  rintro a T' ⟨rfl, hal, h1, h2, h3, h7, h8, h9⟩
  rw [wc_seq, wc_block]
  refine wc_scut (fun a V => V = S0 ∧ a.length = 86 ∧ a[1]? = some (.int .i64 k) ∧ a[2]? = some (.str p) ∧ a[3]? = some (.loc 0 0 0) ∧ a[7]? = some (d) ∧ a[8]? = some (.loc 1 0 0) ∧ a[9]? = some (.int .i64 j) ∧ a[10]? = some (.str q) ∧ a[11]? = some (.loc T'.length 0 0)) ?_ ?_
  · simp (maxSteps := 1000000) (disch := omega) only [push_cast, ↓wc_region, ↓wr_cons, ↓wr_nil, ↓wo_callf, wo_some, opQ_eq, Nat.reduceAdd, Nat.reduceMul, Nat.reduceLT, Nat.reduceLeDiff, Nat.reduceEqDiff, ↓reduceIte, planIds, hasExt, cntFs, idxFs, clnFs, ovlFs, List.contains_cons, List.contains_nil, List.any_cons, List.any_nil, Nat.reduceBEq, setC, List.length_set, eq_self, Int.natCast_nonneg, Int.toNat_natCast, Nat.zero_add, hal, h1, h2, h3, h7, h8, h9, hz, cp, hT1, set_end, get_end, List.getElem?_map, Cls.enc]
    exact hS0.symm
  clear hal h1 h2 h3 h7 h8 h9 a
  rintro a V ⟨rfl, hal, h1, h2, h3, h7, h8, h9, h10, h11⟩
  refine wc_scut (fun a V' => (KeepF V V' ∧ FN V' a[7]? (3 * j + 1)) ∧ a.length = 86 ∧ a[1]? = some (.int .i64 k) ∧ a[2]? = some (.str p) ∧ a[3]? = some (.loc 0 0 0) ∧ a[8]? = some (.loc 1 0 0) ∧ a[9]? = some (.int .i64 j) ∧ a[10]? = some (.str q) ∧ a[11]? = some (.loc T'.length 0 0)) ?_ ?_
  · obtain ⟨d1, T1, fs1, p1, q1, g1, l1, -, k1⟩ := app_w hg0 (by omega) (!clsB z.code) 16 q
    cases hb : clsB z.code
    · rw [hb] at p1 cc
      replace p1 := p1 rfl
      simp (maxSteps := 1000000) (disch := omega) only [push_cast, ↓wc_seq, ↓wc_condL, ↓wc_region, ↓wr_cons, ↓wr_nil, ↓wo_callf, wo_some, opQ_eq, seqQ_normal, pickC_true, Nat.reduceAdd, Nat.reduceMul, Nat.reducePow, Nat.reduceLT, Nat.reduceLeDiff, Nat.reduceEqDiff, ↓wo_build, ↓wo_buildSlice, evParts, ↓reduceIte, planIds, hasExt, cntFs, idxFs, clnFs, ovlFs, List.contains_cons, List.contains_nil, List.any_cons, List.any_nil, Nat.reduceBEq, setC, List.length_set, eq_self, Option.some.injEq, Nat.zero_add, Nat.add_zero, hal, h1, h2, h3, h7, h8, h9, h10, h11, g0, cc, p1, dUn, Bool.not_false, FN]
      exact ⟨k1, _, _, rfl, g1, by omega⟩
    · rw [hb] at q1 cc
      obtain ⟨rfl, rfl⟩ := q1 rfl
      simp (maxSteps := 1000000) (disch := omega) only [push_cast, ↓wc_seq, ↓wc_condL, ↓wc_region, ↓wr_cons, ↓wr_nil, ↓wo_callf, ↓wc_skip, wo_some, opQ_eq, seqQ_normal, pickC_false, Nat.reduceAdd, Nat.reduceMul, Nat.reduceLT, Nat.reduceEqDiff, ↓reduceIte, planIds, hasExt, cntFs, idxFs, clnFs, ovlFs, List.contains_cons, List.contains_nil, List.any_cons, List.any_nil, Nat.reduceBEq, setC, List.length_set, eq_self, Option.some.injEq, Nat.zero_add, Nat.add_zero, hal, h1, h2, h3, h7, h8, h9, h10, h11, g0, cc, dUn, Bool.not_true, FN]
      exact ⟨k1, _, _, rfl, g1, by omega⟩
  clear hal h1 h2 h3 h7 h8 h9 h10 h11 a
  rintro a V1 ⟨⟨k1, d1, fs1, h7, g1, l1⟩, hal, h1, h2, h3, h8, h9, h10, h11⟩
  have v01 := k1 0 _ not_fault2 v0
  have v11 := k1 1 _ not_fault4 v1
  have v21 := k1 _ _ not_fault2 g0
  refine wc_scut (fun a V' => (KeepF V1 V' ∧ FN V' a[7]? (3 * j + 2)) ∧ a.length = 86 ∧ a[1]? = some (.int .i64 k) ∧ a[2]? = some (.str p) ∧ a[3]? = some (.loc 0 0 0) ∧ a[8]? = some (.loc 1 0 0) ∧ a[9]? = some (.int .i64 j) ∧ a[10]? = some (.str q) ∧ a[11]? = some (.loc T'.length 0 0)) ?_ ?_
  · obtain ⟨d2, T2, fs2, p2, q2, g2, l2, -, k2⟩ := app_w g1 (by omega) bo 6 q
    cases hb : bo
    · rw [hb] at q2 co
      obtain ⟨rfl, rfl⟩ := q2 rfl
      simp (maxSteps := 1000000) (disch := omega) only [push_cast, ↓wc_seq, ↓wc_condL, ↓wc_region, ↓wr_cons, ↓wr_nil, ↓wo_callf, ↓wc_skip, wo_some, opQ_eq, seqQ_normal, pickC_false, Nat.reduceAdd, Nat.reduceMul, Nat.reduceLT, Nat.reduceLeDiff, Nat.reduceEqDiff, ↓reduceIte, planIds, hasExt, cntFs, idxFs, clnFs, ovlFs, List.contains_cons, List.contains_nil, List.any_cons, List.any_nil, Nat.reduceBEq, setC, List.length_set, eq_self, Option.some.injEq, Nat.zero_add, hal, h1, h2, h3, h7, h8, h9, h10, h11, v01, co, FN]
      exact ⟨k2, _, _, rfl, g2, by omega⟩
    · rw [hb] at p2 co
      replace p2 := p2 rfl
      simp (maxSteps := 1000000) (disch := omega) only [push_cast, ↓wc_seq, ↓wc_condL, ↓wc_region, ↓wr_cons, ↓wr_nil, ↓wo_callf, wo_some, opQ_eq, seqQ_normal, pickC_true, Nat.reduceAdd, Nat.reduceMul, Nat.reducePow, Nat.reduceLT, Nat.reduceLeDiff, Nat.reduceEqDiff, ↓wo_build, ↓wo_buildSlice, evParts, ↓reduceIte, planIds, hasExt, cntFs, idxFs, clnFs, ovlFs, List.contains_cons, List.contains_nil, List.any_cons, List.any_nil, Nat.reduceBEq, setC, List.length_set, eq_self, Option.some.injEq, Nat.zero_add, hal, h1, h2, h3, h7, h8, h9, h10, h11, v01, co, p2, FN]
      exact ⟨k2, _, _, rfl, g2, by omega⟩
  clear hal h1 h2 h3 h7 h8 h9 h10 h11 a
  rintro a V2 ⟨⟨k2, d2, fs2, h7, g2, l2⟩, hal, h1, h2, h3, h8, h9, h10, h11⟩
  have v02 := k2 0 _ not_fault2 v01
  have v12 := k2 1 _ not_fault4 v11
  have v22 := k2 _ _ not_fault2 v21
  refine wc_scut (fun a V' => (V' = V2 ∧ ∃ b, a[79]? = some (.bool b)) ∧ a.length = 86 ∧ a[1]? = some (.int .i64 k) ∧ a[2]? = some (.str p) ∧ a[3]? = some (.loc 0 0 0) ∧ a[7]? = some (d2) ∧ a[8]? = some (.loc 1 0 0) ∧ a[9]? = some (.int .i64 j) ∧ a[10]? = some (.str q) ∧ a[11]? = some (.loc T'.length 0 0)) ?_ ?_
  · have hj0 : j = 0 ∨ 0 < j := by omega
    by_cases c1 : z.prot < 0
    · simp (maxSteps := 1000000) (disch := omega) only [push_cast, ↓wc_region, ↓wr_cons, ↓wr_consgL, ↓wr_nil, ↓wo_pickL, wo_some, opQ_eq, pickO_true, gstep_tf, gstep_skip, Nat.reduceAdd, Nat.reduceMul, Nat.reduceLT, Nat.reduceEqDiff, ↓reduceIte, planIds, List.contains_cons, List.contains_nil, Nat.reduceBEq, setC, List.length_set, eq_self, Option.some.injEq, Nat.zero_add, hal, h1, h2, h3, h7, h8, h9, h10, h11, v22, c1]
      exact ⟨_, rfl⟩
    rcases hj0 with hj0 | hj0
    · have c2 : ¬ (0 : Int) < j := by omega
      cases hr : rngB y
      · rw [hr] at cr
        simp (maxSteps := 1000000) (disch := omega) only [push_cast, ↓wc_region, ↓wr_cons, ↓wr_consgL, ↓wr_nil, ↓wo_pickL, ↓wo_callf, wo_some, opQ_eq, pickO_false, gstep_ff, gstep_ft, Nat.reduceAdd, Nat.reduceMul, Nat.reduceLT, Nat.reduceLeDiff, Nat.reduceEqDiff, ↓reduceIte, planIds, hasExt, cntFs, idxFs, clnFs, ovlFs, List.contains_cons, List.contains_nil, List.any_cons, List.any_nil, Nat.reduceBEq, setC, List.length_set, eq_self, Option.some.injEq, Nat.zero_add, gt_iff_lt, hal, h1, h2, h3, h7, h8, h9, h10, h11, v22, v12, c1, c2, cr]
        exact ⟨_, rfl⟩
      · rw [hr] at cr
        by_cases c5 : va < z.prot
        · simp (maxSteps := 1000000) (disch := omega) only [push_cast, ↓wc_region, ↓wr_cons, ↓wr_consgL, ↓wr_nil, ↓wo_pickL, ↓wo_callf, wo_some, opQ_eq, pickO_true, pickO_false, gstep_tt, gstep_ff, gstep_ft, Nat.reduceAdd, Nat.reduceMul, Nat.reduceLT, Nat.reduceLeDiff, Nat.reduceEqDiff, ↓reduceIte, planIds, hasExt, cntFs, idxFs, clnFs, ovlFs, List.contains_cons, List.contains_nil, List.any_cons, List.any_nil, Nat.reduceBEq, setC, List.length_set, eq_self, Option.some.injEq, Nat.zero_add, gt_iff_lt, hal, h1, h2, h3, h7, h8, h9, h10, h11, v22, v12, c1, c2, cr, ca, c5]
          exact ⟨_, rfl⟩
        · simp (maxSteps := 1000000) (disch := omega) only [push_cast, ↓wc_region, ↓wr_cons, ↓wr_consgL, ↓wr_nil, ↓wo_pickL, ↓wo_callf, wo_some, opQ_eq, pickO_true, pickO_false, gstep_tt, gstep_ff, gstep_ft, Nat.reduceAdd, Nat.reduceMul, Nat.reduceLT, Nat.reduceLeDiff, Nat.reduceEqDiff, ↓reduceIte, planIds, hasExt, cntFs, idxFs, clnFs, ovlFs, List.contains_cons, List.contains_nil, List.any_cons, List.any_nil, Nat.reduceBEq, setC, List.length_set, eq_self, Option.some.injEq, Nat.zero_add, gt_iff_lt, hal, h1, h2, h3, h7, h8, h9, h10, h11, v22, v12, c1, c2, cr, ca, c5]
          exact ⟨_, rfl⟩
    · have c2 : (0 : Int) < j := by omega
      obtain ⟨z', hz'⟩ : ∃ z', y.cls[j - 1]? = some z' := ⟨y.cls[j - 1]'(by omega), by simp⟩
      have hpi : ((j : Int) - 1).toNat = j - 1 := by omega
      have hpn : (0 : Int) ≤ (j : Int) - 1 := by omega
      by_cases c3 : z.prot < z'.prot
      · simp (maxSteps := 1000000) (disch := omega) only [push_cast, ↓wc_region, ↓wr_cons, ↓wr_consgL, ↓wr_nil, ↓wo_pickL, wo_some, opQ_eq, pickO_true, pickO_false, gstep_tt, gstep_ff, gstep_tf, gstep_skip, Nat.reduceAdd, Nat.reduceMul, Nat.reduceLT, Nat.reduceEqDiff, ↓reduceIte, planIds, List.contains_cons, List.contains_nil, Nat.reduceBEq, setC, List.length_set, eq_self, Option.some.injEq, Nat.zero_add, gt_iff_lt, hal, h1, h2, h3, h7, h8, h9, h10, h11, v22, v12, c1, c2, c3, hz', hpi, hpn, List.getElem?_map, Cls.enc, wrap_ok]
        exact ⟨_, rfl⟩
      cases hr : rngB y
      · rw [hr] at cr
        simp (maxSteps := 1000000) (disch := omega) only [push_cast, ↓wc_region, ↓wr_cons, ↓wr_consgL, ↓wr_nil, ↓wo_pickL, ↓wo_callf, wo_some, opQ_eq, pickO_true, pickO_false, gstep_tt, gstep_ff, gstep_ft, Nat.reduceAdd, Nat.reduceMul, Nat.reduceLT, Nat.reduceLeDiff, Nat.reduceEqDiff, ↓reduceIte, planIds, hasExt, cntFs, idxFs, clnFs, ovlFs, List.contains_cons, List.contains_nil, List.any_cons, List.any_nil, Nat.reduceBEq, setC, List.length_set, eq_self, Option.some.injEq, Nat.zero_add, gt_iff_lt, hal, h1, h2, h3, h7, h8, h9, h10, h11, v22, v12, c1, c2, c3, hz', hpi, hpn, cr, List.getElem?_map, Cls.enc, wrap_ok]
        exact ⟨_, rfl⟩
      · rw [hr] at cr
        by_cases c5 : va < z.prot
        · simp (maxSteps := 1000000) (disch := omega) only [push_cast, ↓wc_region, ↓wr_cons, ↓wr_consgL, ↓wr_nil, ↓wo_pickL, ↓wo_callf, wo_some, opQ_eq, pickO_true, pickO_false, gstep_tt, gstep_ff, Nat.reduceAdd, Nat.reduceMul, Nat.reduceLT, Nat.reduceLeDiff, Nat.reduceEqDiff, ↓reduceIte, planIds, hasExt, cntFs, idxFs, clnFs, ovlFs, List.contains_cons, List.contains_nil, List.any_cons, List.any_nil, Nat.reduceBEq, setC, List.length_set, eq_self, Option.some.injEq, Nat.zero_add, gt_iff_lt, hal, h1, h2, h3, h7, h8, h9, h10, h11, v22, v12, c1, c2, c3, hz', hpi, hpn, cr, ca, c5, List.getElem?_map, Cls.enc, wrap_ok]
          exact ⟨_, rfl⟩
        · simp (maxSteps := 1000000) (disch := omega) only [push_cast, ↓wc_region, ↓wr_cons, ↓wr_consgL, ↓wr_nil, ↓wo_pickL, ↓wo_callf, wo_some, opQ_eq, pickO_true, pickO_false, gstep_tt, gstep_ff, Nat.reduceAdd, Nat.reduceMul, Nat.reduceLT, Nat.reduceLeDiff, Nat.reduceEqDiff, ↓reduceIte, planIds, hasExt, cntFs, idxFs, clnFs, ovlFs, List.contains_cons, List.contains_nil, List.any_cons, List.any_nil, Nat.reduceBEq, setC, List.length_set, eq_self, Option.some.injEq, Nat.zero_add, gt_iff_lt, hal, h1, h2, h3, h7, h8, h9, h10, h11, v22, v12, c1, c2, c3, hz', hpi, hpn, cr, ca, c5, List.getElem?_map, Cls.enc, wrap_ok]
          exact ⟨_, rfl⟩
  clear hal h1 h2 h3 h7 h8 h9 h10 h11 a
  rintro a V' ⟨⟨rfl, b, h79⟩, hal, h1, h2, h3, h7, h8, h9, h10, h11⟩
  obtain ⟨d3, T3, fs3, p3, q3, g3, l3, -, k3⟩ := app_w g2 (by omega) b 2 q
  have v03 := k3 0 _ not_fault2 v02
  have v13 := k3 1 _ not_fault4 v12
  cases b
  · obtain ⟨rfl, rfl⟩ := q3 rfl
    simp (maxSteps := 1000000) (disch := omega) only [push_cast, ↓wc_condL, ↓wc_region, ↓wr_cons, ↓wr_nil, ↓wc_skip, wo_some, opQ_eq, seqQ_normal, blockQ_normal, iterQ_normal, pickC_false, Nat.reduceAdd, Nat.reduceMul, Nat.reduceLT, Nat.reduceEqDiff, ↓reduceIte, planIds, List.contains_cons, List.contains_nil, Nat.reduceBEq, setC, List.length_set, eq_self, Option.some.injEq, Nat.zero_add, hal, h1, h2, h3, h7, h8, h9, h79, wrap_ok, Int.natCast_add, Int.natCast_one, FN]
    exact ⟨hlt, v03, v13, _, _, rfl, g3, by omega⟩
  · replace p3 := p3 rfl
    simp (maxSteps := 1000000) (disch := omega) only [push_cast, ↓wc_condL, ↓wc_region, ↓wr_cons, ↓wr_nil, wo_some, opQ_eq, seqQ_normal, blockQ_normal, iterQ_normal, pickC_true, Nat.reduceAdd, Nat.reduceMul, Nat.reducePow, Nat.reduceLT, Nat.reduceLeDiff, Nat.reduceEqDiff, ↓wo_build, ↓wo_buildSlice, evParts, ↓reduceIte, planIds, List.contains_cons, List.contains_nil, Nat.reduceBEq, setC, List.length_set, eq_self, Option.some.injEq, Nat.zero_add, hal, h1, h2, h3, h7, h8, h9, h10, h79, p3, wrap_ok, Int.natCast_add, Int.natCast_one, FN]
    exact ⟨hlt, v03, v13, _, _, rfl, g3, by omega⟩
theorem classesW {n k : Nat} {c : Cfg} {y : Cab} {p : ByteArray} (hn : 3000001 ≤ n) (hc : CfgB c) (hy : c.cabs[k]? = some y) (hp : p.size ≤ 900) :
    ∃ x fs, FLs 2 encF x fs ∧ fs.length ≤ 3 * y.cls.length ∧ ∀ st S, callD E (dcall E n) st S 98 [.agg c.enc, .int .i64 k, .str p] = some (x, S) := by
  obtain ⟨m, rfl⟩ : ∃ m, n = m + 1 := ⟨n - 1, by omega⟩
  obtain ⟨d, T, ho, fs, hg, hl⟩ := classesW_d (n := m) (p := p) (by omega) hc hy hp
  obtain ⟨d', hf, hd⟩ := hg.fls (encF_pure _)
  exact ⟨d', fs, hd, hl, fun st S => callD_pure rfl (by simp [pureL_cons, pureL_nil, D.pure, Cfg_pure]) ho hf⟩
end Wb
end Go.Proofs.YthkbiiammhekfaaGreatDoor.Dm
