/-
  The walk of WaitlistNil.
-/
import Derived.Test.YtajhgnefcddenaaDoorWlS
import Derived.Test.YtajhgnefcddenaaDoorWlY
import Derived.Test.YtajhgnefcddenaaDoorEval
import Derived.Test.YtajhgnefcddenaaDoorWq
import Derived.Test.YtajhgnefcddenaaDoorFrameO
import Derived.Test.YtajhgnefcddenaaDoorTod
namespace Go.Proofs.YtajhgnefcddenaaDoor.Dm
open Go Gw
set_option linter.unusedSimpArgs false
set_option linter.unusedSimpArgs false

/-- The request's cell, and the zero list's. -/
def Bs (x : Wt) (kz : Nat) (T : List Ob) : Prop := T[0]? = some (.row 5 [x.enc]) ∧ T[kz]? = some (.row 4 [[.nils, .nilf, .nilf, .bool false]])
theorem Bs.app {x : Wt} {kz : Nat} {T : List Ob} (h : Bs x kz T) (J : List Ob) : Bs x kz (T ++ J) :=
  ⟨by rw [List.getElem?_append_left (lt_of_get h.1)]; exact h.1, by rw [List.getElem?_append_left (lt_of_get h.2)]; exact h.2⟩
theorem Bs.no {x : Wt} {kz : Nat} {T : List Ob} (h : Bs x kz T) {p : D} (hp : p = .nilp ∨ p = .loc kz 0 0) : NoL T p := by
  rcases hp with rfl | rfl
  · exact .inl rfl
  · exact .inr ⟨kz, rfl, h.2⟩
theorem get_app {T : List Ob} {k : Nat} {o : Ob} (h : T[k]? = some o) (J : List Ob) : (T ++ J)[k]? = some o := by
  rw [List.getElem?_append_left (lt_of_get h)]; exact h
theorem callD_st {call : Call} {st st' : Bool} {S : List Ob} {f : FuncId} {args : List D} (hm : E.mode f = .gen ∨ E.mode f = .ext) : callD E call st S f args = callD E call st' S f args := by
  unfold callD
  rcases hm with hm | hm <;> rw [hm]
theorem eqb (a b : Bool) : dEq Tryd.prog 10000 4 (.bool a) (.bool b) = some (a == b) := by
  rw [show (10000 : Nat) = 9999 + 1 from rfl]; simp only [dEq, Tryd.underlying4]
set_option maxHeartbeats 8000000 in
set_option maxRecDepth 100000 in
theorem WaitlistNil_d {n : Nat} (hn : 1000 ≤ n) {x : Wt} {w : Int} (hx : x.Ok) :
    ∃ T, dcall E (n + 1) 3 [.agg x.enc, .int .i64 w] [] = some (.bool true, T) := by
  have cw := fun st S => awake19_n (n := n) (by omega) st S
  have : WO (dcall E (n + 1) 3 [.agg x.enc, .int .i64 w] []) fun r T => r = .bool true := by
    refine wo_dcall Tryd.func3 rfl (by decide) rfl 125 rfl (fun a hal ha => ?_)
    have h0 : a[0]? = some (.agg x.enc) := ha 0 (by simp)
    have h1 : a[1]? = some (.int .i64 w) := ha 1 (by simp)
    clear ha
    simp only [Wt.enc] at h0
    by_cases h6 : (6 : Int) < x.legs.length
    · simp (maxSteps := 1000000) (disch := omega) only [push_cast, ↓wc_seq, ↓wc_block, ↓wc_scope, ↓wc_condL, ↓wc_region, ↓wr_cons, ↓wr_consgL, ↓wr_nil, ↓wo_pickL, ↓wo_callf, ↓wc_exit, ↓wc_ret, ↓wc_skip, ↓wc_wl, wo_some, wo_none, wo_ite, opQ_eq, seqQ_normal, seqQ_exit, seqQ_ret, blockQ_normal, blockQ_exit, blockQ_ret, iterQ_normal, iterQ_exit, iterQ_ret, retQ_normal, retQ_ret, retQ_exit, pickC_true, pickC_false, pickO_true, pickO_false, gstep_tt, gstep_ff, gstep_tf, gstep_ft, gstep_skip, int_bne, int_beq, decide_not, Nat.reduceAdd, Nat.reduceMul, Nat.reduceSub, Nat.reducePow, Nat.reduceLT, Nat.reduceLeDiff, Nat.reduceEqDiff, Int.reduceToNat, Int.reduceAdd, Int.reduceSub, Int.reduceNeg, Int.reduceMul, Int.reduceLT, Int.reduceLE, Int.reduceEq, le_max, ↓wo_build, ↓wo_buildSlice, evParts, ↓reduceIte, planIds, hasExt, cntFs, idxFs, clnFs, ovlFs, List.contains_cons, List.contains_nil, List.any_cons, List.any_nil, Nat.reduceBEq, setC, List.length_set, decide_eq_true_eq, decide_eq_false_iff_not, true_implies, false_implies, forall_const, reduceCtorEq, eq_self, Int.natCast_nonneg, Int.toNat_natCast, Int.ofNat_lt, D.int.injEq, Option.some.injEq, Nat.zero_add, Nat.add_zero, bne_iff_ne, bne_eq_false_iff_eq, beq_iff_eq, beq_eq_false_iff_ne, gt_iff_lt, ne_eq, not_true_eq_false, not_false_eq_true, hal, h0, h1, List.nil_append, List.length_nil, List.getElem?_cons_zero, List.length_map, h6, cw, Tryd.f3]
    have hl : x.legs.length ≤ 6 := by omega
    obtain ⟨ks, J0, cn⟩ := New_nil (n := n) (by omega) false [Ob.row 5 [x.enc]]
    simp only [Wt.enc] at cn
    simp (maxSteps := 1000000) (disch := omega) only [push_cast, ↓wc_seq, ↓wc_block, ↓wc_scope, ↓wc_condL, ↓wc_region, ↓wr_cons, ↓wr_consgL, ↓wr_nil, ↓wo_pickL, ↓wo_callf, ↓wc_exit, ↓wc_ret, ↓wc_skip, ↓wc_wl, wo_some, wo_none, wo_ite, opQ_eq, seqQ_normal, seqQ_exit, seqQ_ret, blockQ_normal, blockQ_exit, blockQ_ret, iterQ_normal, iterQ_exit, iterQ_ret, retQ_normal, retQ_ret, retQ_exit, pickC_true, pickC_false, pickO_true, pickO_false, gstep_tt, gstep_ff, gstep_tf, gstep_ft, gstep_skip, int_bne, int_beq, decide_not, Nat.reduceAdd, Nat.reduceMul, Nat.reduceSub, Nat.reducePow, Nat.reduceLT, Nat.reduceLeDiff, Nat.reduceEqDiff, Int.reduceToNat, Int.reduceAdd, Int.reduceSub, Int.reduceNeg, Int.reduceMul, Int.reduceLT, Int.reduceLE, Int.reduceEq, le_max, ↓wo_build, ↓wo_buildSlice, evParts, ↓reduceIte, planIds, hasExt, cntFs, idxFs, clnFs, ovlFs, List.contains_cons, List.contains_nil, List.any_cons, List.any_nil, Nat.reduceBEq, setC, List.length_set, decide_eq_true_eq, decide_eq_false_iff_not, true_implies, false_implies, forall_const, reduceCtorEq, eq_self, Int.natCast_nonneg, Int.toNat_natCast, Int.ofNat_lt, D.int.injEq, Option.some.injEq, Nat.zero_add, Nat.add_zero, bne_iff_ne, bne_eq_false_iff_eq, beq_iff_eq, beq_eq_false_iff_ne, gt_iff_lt, ne_eq, not_true_eq_false, not_false_eq_true, hal, h0, h1, List.nil_append, List.length_nil, List.getElem?_cons_zero, List.length_map, h6, cn]
    have b0 : Bs x (([Ob.row 5 [x.enc]] ++ J0).length) ([Ob.row 5 [x.enc]] ++ J0 ++ [Ob.row 4 [[.nils, .nilf, .nilf, .bool false]]]) := ⟨rfl, get_end⟩
    refine wl_loop (fun i a T => (∃ kz, Bs x kz T ∧ a[7]? = some (.sl 1 [[.nilp], [.loc kz 0 0]] true)) ∧ a.length = 125 ∧ a[1]? = some (.int .i64 w) ∧ a[2]? = some (.loc 0 0 0) ∧ a[5]? = some (.loc ks 0 0) ∧ a[8]? = some (.int .i64 i)) 2 ?_ (by omega) ?_
    · simp (maxSteps := 1000000) (disch := omega) only [push_cast, ↓wc_seq, ↓wc_block, ↓wc_scope, ↓wc_condL, ↓wc_region, ↓wr_cons, ↓wr_consgL, ↓wr_nil, ↓wo_pickL, ↓wo_callf, ↓wc_exit, ↓wc_ret, ↓wc_skip, ↓wc_wl, wo_some, wo_none, wo_ite, opQ_eq, seqQ_normal, seqQ_exit, seqQ_ret, blockQ_normal, blockQ_exit, blockQ_ret, iterQ_normal, iterQ_exit, iterQ_ret, retQ_normal, retQ_ret, retQ_exit, pickC_true, pickC_false, pickO_true, pickO_false, gstep_tt, gstep_ff, gstep_tf, gstep_ft, gstep_skip, int_bne, int_beq, decide_not, Nat.reduceAdd, Nat.reduceMul, Nat.reduceSub, Nat.reducePow, Nat.reduceLT, Nat.reduceLeDiff, Nat.reduceEqDiff, Int.reduceToNat, Int.reduceAdd, Int.reduceSub, Int.reduceNeg, Int.reduceMul, Int.reduceLT, Int.reduceLE, Int.reduceEq, le_max, ↓wo_build, ↓wo_buildSlice, evParts, ↓reduceIte, planIds, hasExt, cntFs, idxFs, clnFs, ovlFs, List.contains_cons, List.contains_nil, List.any_cons, List.any_nil, Nat.reduceBEq, setC, List.length_set, decide_eq_true_eq, decide_eq_false_iff_not, true_implies, false_implies, forall_const, reduceCtorEq, eq_self, Int.natCast_nonneg, Int.toNat_natCast, Int.ofNat_lt, D.int.injEq, Option.some.injEq, Nat.zero_add, Nat.add_zero, bne_iff_ne, bne_eq_false_iff_eq, beq_iff_eq, beq_eq_false_iff_ne, gt_iff_lt, ne_eq, not_true_eq_false, not_false_eq_true, hal, h0, h1, Int.natCast_zero]
      exact ⟨_, b0, rfl⟩
    clear hal h0 h1 a
    rintro i a T hi ⟨⟨kz, hB, h7⟩, hal, h1, h2, h5, h8⟩
    have eqff : dEq Tryd.prog 10000 4 (.bool false) (.bool false) = some true := eqb false false
    have eqtt : dEq Tryd.prog 10000 4 (.bool true) (.bool true) = some true := eqb true true
    rcases Nat.lt_or_eq_of_le hi with hlt | rfl
    case inr =>
      obtain ⟨T1, c1, h1l, o, hT1⟩ := WNew_c (n := n) (S := T) (st := false) (by omega)
      have hB1 : Bs x kz T1 := by rw [hT1]; exact hB.app _
      obtain ⟨r, T2, c2, hr⟩ := JoinN (n := n) (st := false) (by omega) hl hx h1l
      have g0 := hB1.1
      rcases hr with ⟨hr, hL⟩ | ⟨rfl, lx, hO, hc, hne⟩
      · have c3 := NextN (n := n) (st := false) (by omega) hL
        have hL2 := hL.app [.row 5 [Wl.zW]]
        have c4 := ClearN (n := n) (st := false) (by omega) hL2
        have c5 := OrderN (n := n) (st := false) (by omega) hL2
        rw [List.append_nil] at c5
        simp only [Wl.zW, Wt.enc] at c2 c3 c4 c5 g0
        simp (maxSteps := 1000000) (disch := omega) only [push_cast, ↓wc_seq, ↓wc_block, ↓wc_scope, ↓wc_condL, ↓wc_region, ↓wr_cons, ↓wr_consgL, ↓wr_nil, ↓wo_pickL, ↓wo_callf, ↓wc_exit, ↓wc_ret, ↓wc_skip, ↓wc_wl, wo_some, wo_none, wo_ite, opQ_eq, seqQ_normal, seqQ_exit, seqQ_ret, blockQ_normal, blockQ_exit, blockQ_ret, iterQ_normal, iterQ_exit, iterQ_ret, retQ_normal, retQ_ret, retQ_exit, pickC_true, pickC_false, pickO_true, pickO_false, gstep_tt, gstep_ff, gstep_tf, gstep_ft, gstep_skip, int_bne, int_beq, decide_not, Nat.reduceAdd, Nat.reduceMul, Nat.reduceSub, Nat.reducePow, Nat.reduceLT, Nat.reduceLeDiff, Nat.reduceEqDiff, Int.reduceToNat, Int.reduceAdd, Int.reduceSub, Int.reduceNeg, Int.reduceMul, Int.reduceLT, Int.reduceLE, Int.reduceEq, le_max, ↓wo_build, ↓wo_buildSlice, evParts, ↓reduceIte, planIds, hasExt, cntFs, idxFs, clnFs, ovlFs, List.contains_cons, List.contains_nil, List.any_cons, List.any_nil, Nat.reduceBEq, setC, List.length_set, decide_eq_true_eq, decide_eq_false_iff_not, true_implies, false_implies, forall_const, reduceCtorEq, eq_self, Int.natCast_nonneg, Int.toNat_natCast, Int.ofNat_lt, D.int.injEq, Option.some.injEq, Nat.zero_add, Nat.add_zero, bne_iff_ne, bne_eq_false_iff_eq, beq_iff_eq, beq_eq_false_iff_ne, gt_iff_lt, ne_eq, not_true_eq_false, not_false_eq_true, hal, h1, h2, h5, h7, h8, c1, c2, c3, c4, c5, g0, hr, eqff, eqtt, Int.lt_irrefl, dUn, cw, set_end, get_end, Int.natCast_zero, Tryd.f3]
      · have c3 := Next1 (n := n) (x := { x with legsx := lx }) (st := false) (by omega) hne hc hO
        have hL2 := hO.app [.row 5 [Wl.zW]]
        obtain ⟨J4, c4⟩ := Clear1 (n := n) (x := { x with legsx := lx }) (st := false) (by omega) hne hc hL2
        have hL3 := hL2.app J4
        have c5 := Order1 (n := n) (st := false) (by omega) hL3
        simp only [Wl.zW, Wt.enc] at c2 c3 c4 c5 g0
        simp (maxSteps := 1000000) (disch := omega) only [push_cast, ↓wc_seq, ↓wc_block, ↓wc_scope, ↓wc_condL, ↓wc_region, ↓wr_cons, ↓wr_consgL, ↓wr_nil, ↓wo_pickL, ↓wo_callf, ↓wc_exit, ↓wc_ret, ↓wc_skip, ↓wc_wl, wo_some, wo_none, wo_ite, opQ_eq, seqQ_normal, seqQ_exit, seqQ_ret, blockQ_normal, blockQ_exit, blockQ_ret, iterQ_normal, iterQ_exit, iterQ_ret, retQ_normal, retQ_ret, retQ_exit, pickC_true, pickC_false, pickO_true, pickO_false, gstep_tt, gstep_ff, gstep_tf, gstep_ft, gstep_skip, int_bne, int_beq, decide_not, Nat.reduceAdd, Nat.reduceMul, Nat.reduceSub, Nat.reducePow, Nat.reduceLT, Nat.reduceLeDiff, Nat.reduceEqDiff, Int.reduceToNat, Int.reduceAdd, Int.reduceSub, Int.reduceNeg, Int.reduceMul, Int.reduceLT, Int.reduceLE, Int.reduceEq, le_max, ↓wo_build, ↓wo_buildSlice, evParts, ↓reduceIte, planIds, hasExt, cntFs, idxFs, clnFs, ovlFs, List.contains_cons, List.contains_nil, List.any_cons, List.any_nil, Nat.reduceBEq, setC, List.length_set, decide_eq_true_eq, decide_eq_false_iff_not, true_implies, false_implies, forall_const, reduceCtorEq, eq_self, Int.natCast_nonneg, Int.toNat_natCast, Int.ofNat_lt, D.int.injEq, Option.some.injEq, Nat.zero_add, Nat.add_zero, bne_iff_ne, bne_eq_false_iff_eq, beq_iff_eq, beq_eq_false_iff_ne, gt_iff_lt, ne_eq, not_true_eq_false, not_false_eq_true, hal, h1, h2, h5, h7, h8, c1, c2, c3, c4, c5, g0, eqff, eqtt, Int.lt_irrefl, dUn, cw, set_end, get_end, Int.natCast_zero, Tryd.f3]
    obtain ⟨p, hp, hpp⟩ : ∃ p, ([[.nilp], [.loc kz 0 0]] : List (List D))[i]? = some [p] ∧ (p = .nilp ∨ p = .loc kz 0 0) := by
      match i, hlt with
      | 0, _ => exact ⟨_, rfl, .inl rfl⟩
      | 1, _ => exact ⟨_, rfl, .inr rfl⟩
    obtain ⟨J1, c1⟩ := Leave0 (n := n) (S := T) (st := false) (i := w) (by omega) (hB.no hpp)
    have hB1 := hB.app J1
    generalize hS1 : T ++ J1 = S1 at *
    have hB2 := hB1.app [.row 5 [Wl.zW]]
    have c2 := Next0 (n := n) (k := ks) (st := false) (by omega) (hB2.no hpp)
    have hB3 := hB2.app [.row 5 [Wl.zW]]
    obtain ⟨J3, c3⟩ := Join0 (n := n) (st := false) (x := x) (by omega) (hB3.no hpp)
    have g0 := hB3.1
    have hB4 := hB3.app J3
    have g9 : (S1 ++ [Ob.row 5 [Wl.zW]] ++ [Ob.row 5 [Wl.zW]] ++ J3)[S1.length]? = some (.row 5 [Wl.zW]) := by simp
    have g11 : (S1 ++ [Ob.row 5 [Wl.zW]] ++ [Ob.row 5 [Wl.zW]] ++ J3)[(S1 ++ [Ob.row 5 [Wl.zW]]).length]? = some (.row 5 [Wl.zW]) := get_app get_end J3
    obtain ⟨J4, c4⟩ := Order0 (n := n) (st := false) (by omega) (hB4.no hpp)
    have hB5 := hB4.app J4
    obtain ⟨J5, c5⟩ := Clear0 (n := n) (q := .loc ks 0 0) (st := false) (by omega) (hB5.no hpp)
    have hB6 := hB5.app J5
    have hlt' : (i : Int) < 2 := by omega
    have c3 := fun st => (callD_st (st := st) (.inl rfl)).trans c3
    have c4 := fun st => (callD_st (st := st) (.inr rfl)).trans c4
    have c5 := fun st => (callD_st (st := st) (.inl rfl)).trans c5
    simp only [Wl.zW, Wt.enc] at c1 c2 c3 c4 c5 g0 g9 g11
    simp (maxSteps := 1000000) (disch := omega) only [push_cast, ↓wc_seq, ↓wc_block, ↓wc_scope, ↓wc_condL, ↓wc_region, ↓wr_cons, ↓wr_consgL, ↓wr_nil, ↓wo_pickL, ↓wo_callf, ↓wc_exit, ↓wc_ret, ↓wc_skip, ↓wc_wl, wo_some, wo_none, wo_ite, opQ_eq, seqQ_normal, seqQ_exit, seqQ_ret, blockQ_normal, blockQ_exit, blockQ_ret, iterQ_normal, iterQ_exit, iterQ_ret, retQ_normal, retQ_ret, retQ_exit, pickC_true, pickC_false, pickO_true, pickO_false, gstep_tt, gstep_ff, gstep_tf, gstep_ft, gstep_skip, int_bne, int_beq, decide_not, Nat.reduceAdd, Nat.reduceMul, Nat.reduceSub, Nat.reducePow, Nat.reduceLT, Nat.reduceLeDiff, Nat.reduceEqDiff, Int.reduceToNat, Int.reduceAdd, Int.reduceSub, Int.reduceNeg, Int.reduceMul, Int.reduceLT, Int.reduceLE, Int.reduceEq, le_max, ↓wo_build, ↓wo_buildSlice, evParts, ↓reduceIte, planIds, hasExt, cntFs, idxFs, clnFs, ovlFs, List.contains_cons, List.contains_nil, List.any_cons, List.any_nil, Nat.reduceBEq, setC, List.length_set, decide_eq_true_eq, decide_eq_false_iff_not, true_implies, false_implies, forall_const, reduceCtorEq, eq_self, Int.natCast_nonneg, Int.toNat_natCast, Int.ofNat_lt, D.int.injEq, Option.some.injEq, Nat.zero_add, Nat.add_zero, bne_iff_ne, bne_eq_false_iff_eq, beq_iff_eq, beq_eq_false_iff_ne, gt_iff_lt, ne_eq, not_true_eq_false, not_false_eq_true, hal, h1, h2, h5, h7, h8, c1, c2, c3, c4, c5, g0, g9, g11, hp, hlt, hlt', dUn, set_end, get_end, Int.natCast_zero, wrap_ok, Int.natCast_add, Int.natCast_one]
    exact ⟨kz, hB6, rfl⟩
  obtain ⟨_, T, ho, rfl⟩ := this
  exact ⟨T, ho⟩
end Go.Proofs.YtajhgnefcddenaaDoor.Dm
namespace Go.Proofs.YtajhgnefcddenaaDoor
open Go Go.ChangeShapes Go.WideShapes Go.ChangeAt Go.RowKit Dm
theorem TVs.int1w {P : Program} {t : TypeId} {k : IntKind} (ht : P.underlying t = some (.int k)) {ts : List TypeId} {xs : List D} (h : TVs P (t :: ts) xs) : ∃ n xs', xs = .int k n :: xs' ∧ (Lit.int k n).wf = true ∧ TVs P ts xs' := by
  cases h with
  | cons h hs =>
    rcases h with ⟨hg, -⟩ | ⟨-, h⟩
    · rw [aggT, ht] at hg; cases hg
    · cases h with
      | int h hw => rw [ht] at h; cases h; exact ⟨_, _, rfl, hw, hs⟩
      | str h => rw [ht] at h; cases h
      | bool h => rw [ht] at h; cases h
      | nils h => rw [ht] at h; cases h
      | sl h => rw [ht] at h; cases h
      | struct h => rw [ht] at h; cases h
      | array h => rw [ht] at h; cases h
theorem WaitlistNil_walk {W : World} {xs : List D} {vs : Array Value} (ht : TVs Tryd.prog [24, 3] xs) (hv : VRs W ⟨Tryd.prog, fun _ => none, fun g => g < W.heap.size⟩ xs vs.toList) (hp : pureL xs = true) :
    Calls Tryd.prog 3 vs W fun e W' => e = .returned (.bool true) ∧ Below W.heap.size W W' := by
  obtain ⟨d1, _, rfl, h1, ht⟩ := ht.inv
  obtain ⟨w, _, rfl, hw, ht⟩ := TVs.int1w Tryd.underlying3 ht
  have := ht.inv0
  subst this
  obtain ⟨v1, v2, hvs⟩ : ∃ v1 v2, vs.toList = [v1, v2] := by
    have := hv.1
    match vs.toList, this with
    | [v1, v2], _ => exact ⟨v1, v2, rfl⟩
  rw [hvs] at hv
  have r1 := hv.head
  have r2 := hv.tail.head
  obtain ⟨c, rfl, hc⟩ : ∃ c, d1 = .agg c ∧ TC Tryd.prog 24 c := by
    rcases h1 with ⟨-, c, e, hc⟩ | ⟨hg, -⟩
    · exact ⟨c, e, hc⟩
    · have : aggT Tryd.prog 24 = some true := by kernel_rfl
      rw [this] at hg
      cases hg
  obtain ⟨x, ha, hx⟩ := Wt_of hc
  obtain ⟨T, hT⟩ := WaitlistNil_d (n := 1000) (w := w) (by omega) hx
  refine true_of_dcall envOk (I := fun g => g < W.heap.size) hT (fun g h => h) (fun g cs hg => by cases hg) ?_
  rw [hvs]
  refine VRs.cons ?_ (VRs.cons r2 VRs.nil)
  obtain ⟨us, rfl, hus⟩ := r1.of_agg
  have := VR.agg_of (W := W) (C := ⟨Tryd.prog, fun _ => none, fun g => g < W.heap.size⟩) (cs := x.enc) (vs := us.toList) ⟨ha.1.trans hus.1, fun j d u hd hu => ?_⟩
  · change VR W ⟨Tryd.prog, fun _ => none, fun g => g < W.heap.size⟩ (.agg x.enc) (.agg us)
    simpa using this
  · obtain ⟨c', hc'⟩ : ∃ c', c[j]? = some c' := ⟨c[j]'(by have := (List.getElem?_eq_some_iff.1 hu).1; rw [hus.1]; exact this), by simp⟩
    exact (ha.2 j c' d hc' hd).2 _ _ _ (hus.2 j c' u hc' hu)
end Go.Proofs.YtajhgnefcddenaaDoor
