/-
  The walk of OfferRises.
-/
import Derived.Test.YtlamgjbngblefaaDoorSkJ
import Derived.Test.YtlamgjbngblefaaDoorSkY
import Derived.Test.YtlamgjbngblefaaDoorEval
import Derived.Test.YtlamgjbngblefaaDoorMono
import Derived.Test.YtlamgjbngblefaaDoorFrameO
import Derived.Test.YtlamgjbngblefaaDoorTod
namespace Go.Proofs.YtlamgjbngblefaaDoor.Dm
open Go Gw
set_option linter.unusedSimpArgs false
set_option linter.unusedSimpArgs false

theorem awake18_t : isT (dcall E 100 6 [] []) = true := by kernel_rfl
theorem awake18_d : ∃ T, dcall E 100 6 [] [] = some (.bool true, T) := isT_spec awake18_t
theorem bidF_pos {s : Stk} {cs : List Crv} {ids : List Lid} {cl : ByteArray} {v : Int} : 0 ≤ bidF s cs ids cl v := by
  unfold bidF
  split <;> omega
theorem rightB18_of {cs : List Crv} {v : Int} (h : rightB18 cs v = true) : cs.length ≤ 6 ∧ ∀ c ∈ cs, RightI c.l := by
  simp only [rightB18, Bool.and_eq_true, decide_eq_true_eq] at h
  refine ⟨h.1.1.1, fun c hc => ?_⟩
  have := List.all_eq_true.1 h.2 c hc
  simp only [crvB, Bool.and_eq_true, decide_eq_true_eq] at this
  exact ⟨this.1, rightV_rng this.2⟩
set_option maxHeartbeats 8000000 in
set_option maxRecDepth 100000 in
theorem OfferRises_d {n k : Nat} (hn : 1300 ≤ n) {l : List Cfg} {acts : List Cal} {lx ax : Bool} {ld cu : D} {lu : List Nat} {cs : List Crv} (hlu : FLs 1 encU ld lu) (hu : ∀ k ∈ lu, k ≤ 255) (hk : k ≤ 255) (hcu : FLs 1 Crv.enc cu cs) (va vb : Int) (hz : ∀ c ∈ l, CfgZ (n - 3) c) (hacts : ∀ a ∈ acts, a.Ok) :
    ∃ T, dcall E (n + 1) 3 [.sl 2 (l.map Cfg.enc) lx, .sl 6 (acts.map Cal.enc) ax, ld, .int .u8 k, cu, .int .i64 va, .int .i64 vb] [] = some (.bool true, T) := by
  have cw : ∀ st S, callD E (dcall E n) st S 6 [] = some (.bool true, S) := fun st S => by
    obtain ⟨T, hT⟩ := awake18_d
    exact callD_pure rfl rfl (dcall_le (by omega) _ _ _ _ hT) rfl
  obtain ⟨rb, cr, hr⟩ := Right_c (n := n) (l := l) (acts := acts) (lx := lx) (ax := ax) (by omega) hz
  have c1 := right18_c (n := n) (by omega) hcu va
  have c2 := right18_c (n := n) (cs := []) (cu := .nils) (by omega) (.inl ⟨rfl, rfl⟩) vb
  obtain ⟨di, hdi, cl⟩ := legs_c (n := n) (by omega) hlu hu
  have cc := Class_c (n := n) (k := k) (by omega) hk
  have : WO (dcall E (n + 1) 3 [.sl 2 (l.map Cfg.enc) lx, .sl 6 (acts.map Cal.enc) ax, ld, .int .u8 k, cu, .int .i64 va, .int .i64 vb] []) fun r T => r = .bool true := by
    refine wo_dcall Tryd.func3 rfl (by decide) rfl 74 rfl (fun a hal ha => ?_)
    have h0 : a[0]? = some (.sl 2 (l.map Cfg.enc) lx) := ha 0 (by simp)
    have h1 : a[1]? = some (.sl 6 (acts.map Cal.enc) ax) := ha 1 (by simp)
    have h2 : a[2]? = some (ld) := ha 2 (by simp)
    have h3 : a[3]? = some (.int .u8 k) := ha 3 (by simp)
    have h4 : a[4]? = some (cu) := ha 4 (by simp)
    have h5 : a[5]? = some (.int .i64 va) := ha 5 (by simp)
    have h6 : a[6]? = some (.int .i64 vb) := ha 6 (by simp)
    clear ha
    cases rb
    · simp (maxSteps := 1000000) (disch := omega) only [push_cast, ↓wc_seq, ↓wc_block, ↓wc_scope, ↓wc_condL, ↓wc_region, ↓wr_cons, ↓wr_consgL, ↓wr_nil, ↓wo_pickL, ↓wo_callf, ↓wc_exit, ↓wc_ret, ↓wc_skip, ↓wc_wl, wo_some, wo_none, wo_ite, opQ_eq, seqQ_normal, seqQ_exit, seqQ_ret, blockQ_normal, blockQ_exit, blockQ_ret, iterQ_normal, iterQ_exit, iterQ_ret, retQ_normal, retQ_ret, retQ_exit, pickC_true, pickC_false, pickO_true, pickO_false, gstep_tt, gstep_ff, gstep_tf, gstep_ft, gstep_skip, int_bne, int_beq, decide_not, Nat.reduceAdd, Nat.reduceMul, Nat.reduceSub, Nat.reducePow, Nat.reduceLT, Nat.reduceLeDiff, Nat.reduceEqDiff, Int.reduceToNat, Int.reduceAdd, Int.reduceSub, Int.reduceNeg, Int.reduceMul, Int.reduceLT, Int.reduceLE, Int.reduceEq, le_max, ↓wo_build, ↓wo_buildSlice, evParts, ↓reduceIte, planIds, hasExt, cntFs, idxFs, clnFs, ovlFs, List.contains_cons, List.contains_nil, List.any_cons, List.any_nil, Nat.reduceBEq, setC, List.length_set, decide_eq_true_eq, decide_eq_false_iff_not, true_implies, false_implies, forall_const, reduceCtorEq, eq_self, Int.natCast_nonneg, Int.toNat_natCast, Int.ofNat_lt, D.int.injEq, Option.some.injEq, Nat.zero_add, Nat.add_zero, bne_iff_ne, bne_eq_false_iff_eq, beq_iff_eq, beq_eq_false_iff_ne, gt_iff_lt, ne_eq, not_true_eq_false, not_false_eq_true, planIds, hasExt, cntFs, idxFs, clnFs, ovlFs, List.contains_cons, List.contains_nil, List.any_cons, List.any_nil, Nat.reduceBEq, Nat.reduceMul, Nat.reduceAdd, ↓reduceIte, hal, h0, h1, h2, h3, h4, h5, h6, cr, cw, dUn, Tryd.f3]
    have hr := hr rfl
    cases q1 : rightB18 cs va
    · rw [q1] at c1
      simp (maxSteps := 1000000) (disch := omega) only [push_cast, ↓wc_seq, ↓wc_block, ↓wc_scope, ↓wc_condL, ↓wc_region, ↓wr_cons, ↓wr_consgL, ↓wr_nil, ↓wo_pickL, ↓wo_callf, ↓wc_exit, ↓wc_ret, ↓wc_skip, ↓wc_wl, wo_some, wo_none, wo_ite, opQ_eq, seqQ_normal, seqQ_exit, seqQ_ret, blockQ_normal, blockQ_exit, blockQ_ret, iterQ_normal, iterQ_exit, iterQ_ret, retQ_normal, retQ_ret, retQ_exit, pickC_true, pickC_false, pickO_true, pickO_false, gstep_tt, gstep_ff, gstep_tf, gstep_ft, gstep_skip, int_bne, int_beq, decide_not, Nat.reduceAdd, Nat.reduceMul, Nat.reduceSub, Nat.reducePow, Nat.reduceLT, Nat.reduceLeDiff, Nat.reduceEqDiff, Int.reduceToNat, Int.reduceAdd, Int.reduceSub, Int.reduceNeg, Int.reduceMul, Int.reduceLT, Int.reduceLE, Int.reduceEq, le_max, ↓wo_build, ↓wo_buildSlice, evParts, ↓reduceIte, planIds, hasExt, cntFs, idxFs, clnFs, ovlFs, List.contains_cons, List.contains_nil, List.any_cons, List.any_nil, Nat.reduceBEq, setC, List.length_set, decide_eq_true_eq, decide_eq_false_iff_not, true_implies, false_implies, forall_const, reduceCtorEq, eq_self, Int.natCast_nonneg, Int.toNat_natCast, Int.ofNat_lt, D.int.injEq, Option.some.injEq, Nat.zero_add, Nat.add_zero, bne_iff_ne, bne_eq_false_iff_eq, beq_iff_eq, beq_eq_false_iff_ne, gt_iff_lt, ne_eq, not_true_eq_false, not_false_eq_true, planIds, hasExt, cntFs, idxFs, clnFs, ovlFs, List.contains_cons, List.contains_nil, List.any_cons, List.any_nil, Nat.reduceBEq, Nat.reduceMul, Nat.reduceAdd, ↓reduceIte, hal, h0, h1, h2, h3, h4, h5, h6, cr, c1, cw, dUn, Tryd.f3]
    rw [q1] at c1
    cases q2 : rightB18 [] vb
    · rw [q2] at c2
      simp (maxSteps := 1000000) (disch := omega) only [push_cast, ↓wc_seq, ↓wc_block, ↓wc_scope, ↓wc_condL, ↓wc_region, ↓wr_cons, ↓wr_consgL, ↓wr_nil, ↓wo_pickL, ↓wo_callf, ↓wc_exit, ↓wc_ret, ↓wc_skip, ↓wc_wl, wo_some, wo_none, wo_ite, opQ_eq, seqQ_normal, seqQ_exit, seqQ_ret, blockQ_normal, blockQ_exit, blockQ_ret, iterQ_normal, iterQ_exit, iterQ_ret, retQ_normal, retQ_ret, retQ_exit, pickC_true, pickC_false, pickO_true, pickO_false, gstep_tt, gstep_ff, gstep_tf, gstep_ft, gstep_skip, int_bne, int_beq, decide_not, Nat.reduceAdd, Nat.reduceMul, Nat.reduceSub, Nat.reducePow, Nat.reduceLT, Nat.reduceLeDiff, Nat.reduceEqDiff, Int.reduceToNat, Int.reduceAdd, Int.reduceSub, Int.reduceNeg, Int.reduceMul, Int.reduceLT, Int.reduceLE, Int.reduceEq, le_max, ↓wo_build, ↓wo_buildSlice, evParts, ↓reduceIte, planIds, hasExt, cntFs, idxFs, clnFs, ovlFs, List.contains_cons, List.contains_nil, List.any_cons, List.any_nil, Nat.reduceBEq, setC, List.length_set, decide_eq_true_eq, decide_eq_false_iff_not, true_implies, false_implies, forall_const, reduceCtorEq, eq_self, Int.natCast_nonneg, Int.toNat_natCast, Int.ofNat_lt, D.int.injEq, Option.some.injEq, Nat.zero_add, Nat.add_zero, bne_iff_ne, bne_eq_false_iff_eq, beq_iff_eq, beq_eq_false_iff_ne, gt_iff_lt, ne_eq, not_true_eq_false, not_false_eq_true, planIds, hasExt, cntFs, idxFs, clnFs, ovlFs, List.contains_cons, List.contains_nil, List.any_cons, List.any_nil, Nat.reduceBEq, Nat.reduceMul, Nat.reduceAdd, ↓reduceIte, hal, h0, h1, h2, h3, h4, h5, h6, cr, c1, c2, cw, dUn, Tryd.f3]
    rw [q2] at c2
    by_cases q3 : vb < va
    · simp (maxSteps := 1000000) (disch := omega) only [push_cast, ↓wc_seq, ↓wc_block, ↓wc_scope, ↓wc_condL, ↓wc_region, ↓wr_cons, ↓wr_consgL, ↓wr_nil, ↓wo_pickL, ↓wo_callf, ↓wc_exit, ↓wc_ret, ↓wc_skip, ↓wc_wl, wo_some, wo_none, wo_ite, opQ_eq, seqQ_normal, seqQ_exit, seqQ_ret, blockQ_normal, blockQ_exit, blockQ_ret, iterQ_normal, iterQ_exit, iterQ_ret, retQ_normal, retQ_ret, retQ_exit, pickC_true, pickC_false, pickO_true, pickO_false, gstep_tt, gstep_ff, gstep_tf, gstep_ft, gstep_skip, int_bne, int_beq, decide_not, Nat.reduceAdd, Nat.reduceMul, Nat.reduceSub, Nat.reducePow, Nat.reduceLT, Nat.reduceLeDiff, Nat.reduceEqDiff, Int.reduceToNat, Int.reduceAdd, Int.reduceSub, Int.reduceNeg, Int.reduceMul, Int.reduceLT, Int.reduceLE, Int.reduceEq, le_max, ↓wo_build, ↓wo_buildSlice, evParts, ↓reduceIte, planIds, hasExt, cntFs, idxFs, clnFs, ovlFs, List.contains_cons, List.contains_nil, List.any_cons, List.any_nil, Nat.reduceBEq, setC, List.length_set, decide_eq_true_eq, decide_eq_false_iff_not, true_implies, false_implies, forall_const, reduceCtorEq, eq_self, Int.natCast_nonneg, Int.toNat_natCast, Int.ofNat_lt, D.int.injEq, Option.some.injEq, Nat.zero_add, Nat.add_zero, bne_iff_ne, bne_eq_false_iff_eq, beq_iff_eq, beq_eq_false_iff_ne, gt_iff_lt, ne_eq, not_true_eq_false, not_false_eq_true, planIds, hasExt, cntFs, idxFs, clnFs, ovlFs, List.contains_cons, List.contains_nil, List.any_cons, List.any_nil, Nat.reduceBEq, Nat.reduceMul, Nat.reduceAdd, ↓reduceIte, hal, h0, h1, h2, h3, h4, h5, h6, cr, c1, c2, q3, cw, dUn, Tryd.f3]
    have hg := good_of (n := n - 2) (by omega) hr.2.2 (fun c hc => hz c hc)
    obtain ⟨T, lab', p, cp, ⟨hf, m, ps, hs⟩, hok, -⟩ := Played_c (S := []) (lab := fun _ => []) (o := 1) (n := n) (lx := lx) (ax := ax) (by omega) hg (fun _ _ => rfl) hr.2.1 hacts
    have hids : ∀ id ∈ legsF lu, id.Ok := fun id hid => by
      obtain ⟨k, hk, rfl⟩ := List.mem_map.1 hid
      exact idF_ok k
    have hl6 : (legsF lu).length ≤ 6 := by
      unfold legsF
      rw [List.length_map, List.length_take]; omega
    obtain ⟨g1, g2⟩ := rightB18_of q1
    have b1 := Bid_c (n := n) (by omega) hs (hok.mono (by omega)) hl6 hids hdi g1 g2 hcu (clsN k) va
    have b2 := Bid_c (n := n) (by omega) hs (hok.mono (by omega)) hl6 hids hdi g1 g2 hcu (clsN k) vb
    have p1 : (0 : Int) ≤ bidF (playF ⟨l, lx, []⟩ acts) cs (legsF lu) (clsN k) va := bidF_pos
    have p2 : bidF (playF ⟨l, lx, []⟩ acts) cs (legsF lu) (clsN k) va ≤ bidF (playF ⟨l, lx, []⟩ acts) cs (legsF lu) (clsN k) vb := bidF_le (by omega)
    simp (maxSteps := 1000000) (disch := omega) only [push_cast, ↓wc_seq, ↓wc_block, ↓wc_scope, ↓wc_condL, ↓wc_region, ↓wr_cons, ↓wr_consgL, ↓wr_nil, ↓wo_pickL, ↓wo_callf, ↓wc_exit, ↓wc_ret, ↓wc_skip, ↓wc_wl, wo_some, wo_none, wo_ite, opQ_eq, seqQ_normal, seqQ_exit, seqQ_ret, blockQ_normal, blockQ_exit, blockQ_ret, iterQ_normal, iterQ_exit, iterQ_ret, retQ_normal, retQ_ret, retQ_exit, pickC_true, pickC_false, pickO_true, pickO_false, gstep_tt, gstep_ff, gstep_tf, gstep_ft, gstep_skip, int_bne, int_beq, decide_not, Nat.reduceAdd, Nat.reduceMul, Nat.reduceSub, Nat.reducePow, Nat.reduceLT, Nat.reduceLeDiff, Nat.reduceEqDiff, Int.reduceToNat, Int.reduceAdd, Int.reduceSub, Int.reduceNeg, Int.reduceMul, Int.reduceLT, Int.reduceLE, Int.reduceEq, le_max, ↓wo_build, ↓wo_buildSlice, evParts, ↓reduceIte, planIds, hasExt, cntFs, idxFs, clnFs, ovlFs, List.contains_cons, List.contains_nil, List.any_cons, List.any_nil, Nat.reduceBEq, setC, List.length_set, decide_eq_true_eq, decide_eq_false_iff_not, true_implies, false_implies, forall_const, reduceCtorEq, eq_self, Int.natCast_nonneg, Int.toNat_natCast, Int.ofNat_lt, D.int.injEq, Option.some.injEq, Nat.zero_add, Nat.add_zero, bne_iff_ne, bne_eq_false_iff_eq, beq_iff_eq, beq_eq_false_iff_ne, gt_iff_lt, ne_eq, not_true_eq_false, not_false_eq_true, planIds, hasExt, cntFs, idxFs, clnFs, ovlFs, List.contains_cons, List.contains_nil, List.any_cons, List.any_nil, Nat.reduceBEq, Nat.reduceMul, Nat.reduceAdd, ↓reduceIte, hal, h0, h1, h2, h3, h4, h5, h6, cr, c1, c2, q3, cp, cl, cc, b1, b2, p1, p2, cw, dUn, ge_iff_le, Tryd.f3]
  obtain ⟨_, T, ho, rfl⟩ := this
  exact ⟨T, ho⟩
end Go.Proofs.YtlamgjbngblefaaDoor.Dm
namespace Go.Proofs.YtlamgjbngblefaaDoor
open Go Go.ChangeShapes Go.WideShapes Go.ChangeAt Go.RowKit Dm
theorem TVs.int1 {P : Program} {t : TypeId} {k : IntKind} (ht : P.underlying t = some (.int k)) {ts : List TypeId} {xs : List D} (h : TVs P (t :: ts) xs) : ∃ n xs', xs = .int k n :: xs' ∧ (Lit.int k n).wf = true ∧ TVs P ts xs' := by
  cases h with
  | cons h hs =>
    rcases h with ⟨hg, -⟩ | ⟨-, h⟩
    · rw [aggT, ht] at hg; cases hg
    · cases h with
      | int h hw => rw [ht] at h; cases h; exact ⟨_, _, rfl, hw, hs⟩
      | str h => rw [ht] at h; cases h
      | bool h => rw [ht] at h; cases h
      | nils h => rw [ht] at h; cases h
      | sl h => rw [ht] at h; cases h
      | struct h => rw [ht] at h; cases h
      | array h => rw [ht] at h; cases h
theorem Crv_of {c : List D} (h : TC Tryd.prog 40 c) : ∃ r : Crv, CellR c r.enc ∧ True := by
  obtain ⟨d, rfl⟩ : ∃ d, c = [d] := by
    rcases h.toSlice Tryd.underlying40 with h | ⟨es, x, h, -, -⟩
    · exact ⟨_, h⟩
    · exact ⟨_, h⟩
  obtain ⟨l, x, -, hv⟩ := slices_rel (enc := encZ) (n := 1) (Q := fun _ => True) Tryd.underlying40 cells_gint (fun c h => by
    obtain ⟨z, e, -⟩ := h.toInt Tryd.underlying3
    subst e
    refine ⟨z, ⟨rfl, fun j c c' hc hc' => ?_⟩, trivial⟩
    match j, hc, hc' with
    | 0, hc, hc' => cases hc; cases hc'; exact ⟨rfl, fun _ _ _ h => h⟩
    | j + 1, hc, hc' => simp at hc) h
  refine ⟨⟨.sl 1 (l.map encZ) x, l, .inr ⟨x, rfl⟩⟩, ⟨rfl, fun j c c' hc hc' => ?_⟩, trivial⟩
  match j, hc, hc' with
  | 0, hc, hc' => cases hc; cases hc'; exact ⟨rfl, hv⟩
  | j + 1, hc, hc' => simp at hc
theorem U8_of {c : List D} (h : TC Tryd.prog 5 c) : ∃ r : Nat, CellR c (encU r) ∧ r ≤ 255 := by
  obtain ⟨z, e, hw⟩ := h.toInt Tryd.underlying5
  have hb := u8_bd hw
  obtain ⟨k, rfl⟩ : ∃ k : Nat, z = k := ⟨z.toNat, by omega⟩
  subst e
  refine ⟨k, ⟨rfl, fun j c c' hc hc' => ?_⟩, by omega⟩
  match j, hc, hc' with
  | 0, hc, hc' => cases hc; cases hc'; exact ⟨rfl, fun _ _ _ h => h⟩
  | j + 1, hc, hc' => simp at hc
theorem Cal_of {c : List D} (h : TC Tryd.prog 66 c) : ∃ r : Cal, CellR c r.enc ∧ r.Ok := by
  obtain ⟨⟨k, g, m, e, cl, z⟩, hr, ho⟩ := Axn_of h
  obtain ⟨o1, o2, o3, o4, o5, o6, -⟩ := ho
  dsimp only at o1 o2 o3 o4 o5 o6
  obtain ⟨k, rfl⟩ : ∃ n : Nat, k = n := ⟨k.toNat, by omega⟩
  obtain ⟨g, rfl⟩ : ∃ n : Nat, g = n := ⟨g.toNat, by omega⟩
  obtain ⟨m, rfl⟩ : ∃ n : Nat, m = n := ⟨m.toNat, by omega⟩
  obtain ⟨e, rfl⟩ : ∃ n : Nat, e = n := ⟨e.toNat, by omega⟩
  obtain ⟨cl, rfl⟩ : ∃ n : Nat, cl = n := ⟨cl.toNat, by omega⟩
  exact ⟨⟨k, g, m, e, cl, z⟩, hr, by dsimp only; omega, by dsimp only; omega, by dsimp only; omega, by dsimp only; omega, by dsimp only; omega, by dsimp only; omega, by dsimp only; omega⟩
theorem cells_slI : Tryd.prog.cellsOf 40 = 1 := by kernel_rfl
theorem agg_cfgs : aggT Tryd.prog 22 = some false := by kernel_rfl
theorem agg_acts : aggT Tryd.prog 23 = some false := by kernel_rfl
theorem agg_u8s : aggT Tryd.prog 24 = some false := by kernel_rfl
theorem agg_crvs : aggT Tryd.prog 25 = some false := by kernel_rfl
theorem OfferRises_walk {W : World} {xs : List D} {vs : Array Value} (ht : TVs Tryd.prog [22, 23, 24, 5, 25, 3, 3] xs) (hv : VRs W ⟨Tryd.prog, fun _ => none, fun g => g < W.heap.size⟩ xs vs.toList) (hp : pureL xs = true) :
    Calls Tryd.prog 3 vs W fun e W' => e = .returned (.bool true) ∧ Below W.heap.size W W' := by
  obtain ⟨d1, _, rfl, h1, ht⟩ := ht.inv
  obtain ⟨d2, _, rfl, h2, ht⟩ := ht.inv
  obtain ⟨d3, _, rfl, h3, ht⟩ := ht.inv
  obtain ⟨k, _, rfl, hk, ht⟩ := TVs.int1 Tryd.underlying5 ht
  obtain ⟨d5, _, rfl, h5, ht⟩ := ht.inv
  obtain ⟨a, _, rfl, -, ht⟩ := TVs.int1 Tryd.underlying3 ht
  obtain ⟨b, _, rfl, -, ht⟩ := TVs.int1 Tryd.underlying3 ht
  have := ht.inv0
  subst this
  have hkb := u8_bd hk
  obtain ⟨k, rfl⟩ : ∃ n : Nat, k = n := ⟨k.toNat, by omega⟩
  obtain ⟨v1, v2, v3, v4, v5, v6, v7, hvs⟩ : ∃ v1 v2 v3 v4 v5 v6 v7, vs.toList = [v1, v2, v3, v4, v5, v6, v7] := by
    have := hv.1
    match vs.toList, this with
    | [v1, v2, v3, v4, v5, v6, v7], _ => exact ⟨v1, v2, v3, v4, v5, v6, v7, rfl⟩
  rw [hvs] at hv
  have r1 := hv.head
  have r2 := hv.tail.head
  have r3 := hv.tail.tail.head
  have r5 := hv.tail.tail.tail.tail.head
  obtain ⟨l, lx, ⟨z1, -⟩, w1⟩ := slices_rel (enc := Cfg.enc) (n := 2) Tryd.underlying22 cells_Cfg (fun c h => Cfg_of h) (h1.one agg_cfgs)
  obtain ⟨acts, ax, ⟨z2, -⟩, w2⟩ := slices_rel (enc := Cal.enc) (n := 6) Tryd.underlying23 cells_Axn (fun c h => Cal_of h) (h2.one agg_acts)
  obtain ⟨lu, ux, ⟨z3, -⟩, w3⟩ := slices_rel (enc := encU) (n := 1) Tryd.underlying24 cells_gu8 (fun c h => U8_of h) (h3.one agg_u8s)
  obtain ⟨cs, cx, -, w5⟩ := slices_rel (enc := Crv.enc) (n := 1) Tryd.underlying25 cells_slI (fun c h => Crv_of h) (h5.one agg_crvs)
  obtain ⟨n, hn⟩ : ∃ n : Nat, 9223372036854775807 + 5000 ≤ n := ⟨_, Nat.le_refl _⟩
  obtain ⟨T, hT⟩ := OfferRises_d (n := n) (k := k) (lx := lx) (ax := ax) (by omega) (ld := .sl 1 (lu.map encU) ux) (cu := .sl 1 (cs.map Crv.enc) cx) (.inr ⟨_, rfl⟩) z3 (by omega) (.inr ⟨_, rfl⟩) a b (l := l) (acts := acts) (fun c hc => by
    obtain ⟨e1, ⟨e2, -⟩, -⟩ := z1 c hc
    refine ⟨⟨by omega, e1⟩, fun y hy => ?_, fun y hy z hz => ?_⟩
    · have := (e2 y hy).1
      exact ⟨by omega, this⟩
    · obtain ⟨-, -, -, ⟨e3, -⟩, -⟩ := e2 y hy
      have := (e3 z hz).1
      exact ⟨by omega, this⟩) z2
  refine true_of_dcall envOk (I := fun g => g < W.heap.size) hT (fun g h => h) (fun g cs hg => by cases hg) ?_
  rw [hvs]
  exact VRs.cons (w1 _ _ _ r1) (VRs.cons (w2 _ _ _ r2) (VRs.cons (w3 _ _ _ r3) (VRs.cons hv.tail.tail.tail.head (VRs.cons (w5 _ _ _ r5) (VRs.cons hv.tail.tail.tail.tail.tail.head (VRs.cons hv.tail.tail.tail.tail.tail.tail.head VRs.nil))))))
end Go.Proofs.YtlamgjbngblefaaDoor
