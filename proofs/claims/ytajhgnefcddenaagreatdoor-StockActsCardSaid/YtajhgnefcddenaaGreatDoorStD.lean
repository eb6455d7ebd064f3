/-
  The walk of StockActs.
-/
import Derived.Test.YtajhgnefcddenaaGreatDoorStG
import Derived.Test.YtajhgnefcddenaaGreatDoorSkY
import Derived.Test.YtajhgnefcddenaaGreatDoorWpt
namespace Go.Proofs.YtajhgnefcddenaaGreatDoor.Dm
open Go Gw
set_option linter.unusedSimpArgs false
set_option linter.unusedSimpArgs false

def planA : Plan := (steps [0, 1, 2, 3, 4, 5, 7, 8, 9, 10] (.both (steps [6, 11, 12] .done) (steps [11] (.both (steps [6, 12] .done) (steps [12, 6] .done))))).andThen (steps [13, 14, 15, 16, 17, 18, 19, 20, 21, 22, 23, 24, 25, 26, 27, 28, 29, 30, 31, 32] .done)
set_option maxHeartbeats 32000000 in
set_option maxRecDepth 100000 in
theorem StockActs_d {n : Nat} (hn : 1300 ≤ n) {l : List Cfg} {acts : List Cal} {lx ax : Bool} (hz : ∀ c ∈ l, CfgZ (n - 3) c) (hacts : ∀ a ∈ acts, a.Ok) :
    ∃ T, dcall E (n + 1) 5 [.sl 2 (l.map Cfg.enc) lx, .sl 6 (acts.map Cal.enc) ax] [] = some (.bool true, T) := by
  have cw := fun st S => awake15_c (n := n) (by omega) st S
  obtain ⟨rb, cr, hr⟩ := Right_c (n := n) (l := l) (acts := acts) (lx := lx) (ax := ax) (by omega) hz
  have : WO (dcall E (n + 1) 5 [.sl 2 (l.map Cfg.enc) lx, .sl 6 (acts.map Cal.enc) ax] []) fun r T => r = .bool true := by
    refine wo_dcall Tryz.func5 rfl (by decide) rfl 72 rfl (fun a hal ha => ?_)
    have h0 : a[0]? = some (.sl 2 (l.map Cfg.enc) lx) := ha 0 (by simp)
    have h1 : a[1]? = some (.sl 6 (acts.map Cal.enc) ax) := ha 1 (by simp)
    clear ha
    cases rb
    · simp (maxSteps := 1000000) (disch := omega) only [push_cast, ↓wc_seq, ↓wc_condL, ↓wc_region, ↓wr_cons, ↓wr_nil, ↓wo_callf, ↓wc_ret, wo_some, opQ_eq, seqQ_normal, seqQ_ret, retQ_ret, pickC_true, Nat.reduceAdd, Nat.reduceMul, Nat.reduceLT, Nat.reduceEqDiff, ↓reduceIte, planIds, hasExt, cntFs, idxFs, clnFs, ovlFs, List.contains_cons, List.contains_nil, List.any_cons, List.any_nil, Nat.reduceBEq, setC, List.length_set, reduceCtorEq, eq_self, Nat.zero_add, hal, h0, h1, cr, cw, dUn, Tryz.f5]
    obtain ⟨hr1, hr2, hr3⟩ := hr rfl
    have hg := good_of (n := n - 1) (by omega) hr3 (fun c hc => (hz c hc).mono' (by omega))
    have hsm : ∀ c ∈ l, Sm c := fun c hc => ((cfgs_ok hr3).cfg c hc).sm
    obtain ⟨T0, lab0, p, cn, hs0, -⟩ := New_c (S := []) (lab := fun _ => []) (o := 1) (n := n) (lx := lx) (by omega) hg (fun _ _ => rfl)
    obtain ⟨T1, lab1, r, cm, hr1', st1⟩ := rNew_c (n := n) (o := 2) (lx := lx) (by omega) (by omega) hsm hz hr3 hs0.1
    have hs1 := hs0.other st1 (by omega)
    simp (maxSteps := 1000000) (disch := omega) only [push_cast, ↓wc_seq, ↓wc_block, ↓wc_condL, ↓wc_region, ↓wr_cons, ↓wr_consgL, ↓wr_nil, ↓wo_pickL, ↓wo_callf, ↓wc_skip, ↓wc_wl, wo_some, opQ_eq, seqQ_normal, pickC_false, pickO_false, gstep_ff, Nat.reduceAdd, Nat.reduceMul, Nat.reduceLT, Nat.reduceEqDiff, ↓reduceIte, planIds, hasExt, cntFs, idxFs, clnFs, ovlFs, List.contains_cons, List.contains_nil, List.any_cons, List.any_nil, Nat.reduceBEq, setC, List.length_set, reduceCtorEq, eq_self, Nat.zero_add, gt_iff_lt, hal, h0, h1, cr, cn, cm, dUn, eqp_stk, Int.lt_irrefl]
    refine wl_loop (fun i a T => a.length = 72 ∧ a[0]? = some (.sl 2 (l.map Cfg.enc) lx) ∧ a[1]? = some (.sl 6 (acts.map Cal.enc) ax) ∧ a[5]? = some (.loc p 0 0) ∧ a[7]? = some (.loc r 0 0) ∧ a[9]? = some (.int .i64 i) ∧ ∃ lab', SAt T lab' 1 p (playF ⟨l, lx, []⟩ (acts.take i)) ∧ RAt T lab' 2 r (playF ⟨l, lx, []⟩ (acts.take i)) ∧ StkOk (127 * i) (playF ⟨l, lx, []⟩ (acts.take i))) acts.length ?_ (by omega) ?_
    · simp (maxSteps := 1000000) (disch := omega) only [push_cast, Nat.reduceLT, Nat.reduceEqDiff, Int.reduceMul, ↓reduceIte, setC, List.length_set, reduceCtorEq, eq_self, hal, h0, h1, Int.natCast_zero, List.take_zero]
      exact ⟨lab1, hs1, hr1', hg.ok, List.nodup_nil, fun q hq => by cases hq⟩
    clear hal h0 h1 a
    rintro i a T hi ⟨hal, h0, h1, h5, h7, h9, lab2, hs, hrr, hok⟩
    rcases Nat.lt_or_eq_of_le hi with hlt | rfl
    case inr =>
      simp (maxSteps := 1000000) (disch := omega) only [push_cast, ↓wc_seq, ↓wc_condL, ↓wc_region, ↓wr_cons, ↓wr_nil, ↓wo_callf, ↓wc_exit, ↓wc_ret, wo_some, opQ_eq, seqQ_normal, seqQ_exit, blockQ_exit, iterQ_exit, retQ_ret, pickC_false, Nat.reduceAdd, Nat.reduceMul, Nat.reduceLT, Nat.reduceEqDiff, ↓reduceIte, planIds, hasExt, cntFs, idxFs, clnFs, ovlFs, List.contains_cons, List.contains_nil, List.any_cons, List.any_nil, Nat.reduceBEq, setC, List.length_set, eq_self, Nat.zero_add, hal, h1, h9, Int.lt_irrefl, List.length_map, cw, Tryz.f5]
    have hltc : (i : Int) < acts.length := by omega
    obtain ⟨c, hc⟩ : ∃ c, acts[i]? = some c := ⟨acts[i], by simp⟩
    have hco := hacts c (List.mem_of_getElem? hc)
    obtain ⟨pl, px⟩ := playF_l ⟨l, lx, []⟩ (acts.take i)
    have hll : (playF ⟨l, lx, []⟩ (acts.take i)).l.length ≤ 100 := by rw [pl]; dsimp only; omega
    have hsix : SixOk (playF ⟨l, lx, []⟩ (acts.take i)) := playF_six fun id hid => by simp at hid
    have ok9 := hok.mono (B' := 9999) (by omega)
    obtain ⟨T2, lab3, cd, h1s, st2⟩ := Do_c (n := n) (lx := lx) (by omega) hs ok9 hll hco
    have hr2' := hrr.other st2 (by omega)
    obtain ⟨T3, lab4, cs, h1r, st3⟩ := Say_c (n := n) (lx := lx) (by omega) hr2' ok9 (by have := hsix.le ok9; omega) hll hco
    have hs3 := h1s.other st3 (by omega)
    have hok2 := doF_ok hok (by omega) (by omega) hco
    have hsix2 := doF_six hsix c
    obtain ⟨dl, dx⟩ := doF_l (playF ⟨l, lx, []⟩ (acts.take i)) c
    have ca := answers_c (n := n) (by omega) hs3 h1r (hok2.mono (by omega)) (by rw [dl]; exact hll) (by have := hsix2.le hok2; omega)
    rw [pl] at cd cs
    dsimp only at cd cs
    simp only [Cal.enc] at cd cs
    have t8 : (i : Int).tmod 8 = ((i % 8 : Nat) : Int) := tmod_nat i 8
    obtain ⟨q8, hq8⟩ : ∃ q, q = i % 8 := ⟨_, rfl⟩
    rw [← hq8] at t8
    refine wc_scut (fun a T' => T' = T ∧ a.length = 72 ∧ a[0]? = some (.sl 2 (l.map Cfg.enc) lx) ∧ a[1]? = some (.sl 6 (acts.map Cal.enc) ax) ∧ a[5]? = some (.loc p 0 0) ∧ a[7]? = some (.loc r 0 0) ∧ a[9]? = some (.int .i64 i)) ?_ ?_
    · simp (maxSteps := 1000000) (disch := omega) only [push_cast, ↓wc_seq, ↓wc_condL, ↓wc_region, ↓wr_cons, ↓wr_nil, ↓wc_skip, wo_some, opQ_eq, seqQ_normal, pickC_true, Nat.reduceAdd, Nat.reduceMul, Nat.reduceLT, Nat.reduceEqDiff, ↓reduceIte, planIds, List.contains_cons, List.contains_nil, Nat.reduceBEq, setC, List.length_set, reduceCtorEq, eq_self, Nat.zero_add, hal, h0, h1, h5, h7, h9, hltc, List.length_map]
    clear hal h0 h1 h5 h7 h9 a
    rintro a T' ⟨rfl, hal, h0, h1, h5, h7, h9⟩
    rw [wc_seq, wc_block]
    refine wc_scut (fun a V => V = T3 ∧ a.length = 72 ∧ a[0]? = some (.sl 2 (l.map Cfg.enc) lx) ∧ a[1]? = some (.sl 6 (acts.map Cal.enc) ax) ∧ a[5]? = some (.loc p 0 0) ∧ a[7]? = some (.loc r 0 0) ∧ a[9]? = some (.int .i64 i) ∧ a[70]? = some (.bool false)) ?_ ?_
    · rw [wc_plan (p := planA) rfl]
      unfold planA
      apply wp_then
      rw [wp_pick rfl]
      simp only [opsOf, List.filterMap_cons, List.filterMap_nil, List.getElem?_toArray, List.getElem?_cons_zero, List.getElem?_cons_succ]
      simp (maxSteps := 1000000) (disch := omega) only [push_cast, ↓wr_cons, ↓wr_nil, wo_some, opQ_eq, Nat.reduceAdd, Nat.reduceLT, Nat.reduceLeDiff, Nat.reduceEqDiff, ↓reduceIte, setC, List.length_set, reduceCtorEq, eq_self, Int.natCast_nonneg, Int.toNat_natCast, Nat.zero_add, hal, h0, h1, h5, h7, h9, hc, List.getElem?_map, Cal.enc]
      apply wp_both
      · rw [wp_pick rfl]
        simp only [opsOf, List.filterMap_cons, List.filterMap_nil, List.getElem?_toArray, List.getElem?_cons_zero, List.getElem?_cons_succ]
        simp (maxSteps := 1000000) (disch := omega) only [push_cast, ↓wr_cons, ↓wr_nil, ↓wo_callf, wo_some, opQ_eq, Nat.reduceAdd, Nat.reduceLT, Nat.reduceLeDiff, Nat.reduceEqDiff, ↓reduceIte, hasExt, cntFs, idxFs, clnFs, ovlFs, List.contains_nil, List.any_cons, List.any_nil, Nat.reduceBEq, setC, List.length_set, eq_self, Int.natCast_nonneg, Int.toNat_natCast, Nat.zero_add, hal, hc, cd, List.getElem?_map, Cal.enc, wp_done, ↓set_sorti, id_eq]
        exact ⟨rfl, rfl⟩
      · rw [wp_pick rfl]
        simp only [opsOf, List.filterMap_cons, List.filterMap_nil, List.getElem?_toArray, List.getElem?_cons_zero, List.getElem?_cons_succ]
        simp (maxSteps := 1000000) (disch := omega) only [push_cast, ↓wr_cons, ↓wr_nil, wo_some, opQ_eq, Nat.reduceLT, Nat.reduceEqDiff, ↓reduceIte, setC, List.length_set, eq_self, Int.natCast_nonneg, Int.toNat_natCast, hal, hc, List.getElem?_map, Cal.enc]
        apply wp_both
        · rw [wp_pick rfl]
          simp only [opsOf, List.filterMap_cons, List.filterMap_nil, List.getElem?_toArray, List.getElem?_cons_zero, List.getElem?_cons_succ]
          simp (maxSteps := 1000000) (disch := omega) only [push_cast, ↓wr_cons, ↓wr_nil, ↓wo_callf, wo_some, opQ_eq, Nat.reduceAdd, Nat.reduceLT, Nat.reduceLeDiff, Nat.reduceEqDiff, ↓reduceIte, hasExt, cntFs, idxFs, clnFs, ovlFs, List.contains_nil, List.any_cons, List.any_nil, Nat.reduceBEq, setC, List.length_set, eq_self, Nat.zero_add, hal, cd, wp_done, ↓set_sorti, id_eq]
          exact ⟨rfl, rfl⟩
        · rw [wp_pick rfl]
          simp only [opsOf, List.filterMap_cons, List.filterMap_nil, List.getElem?_toArray, List.getElem?_cons_zero, List.getElem?_cons_succ]
          simp (maxSteps := 1000000) (disch := omega) only [push_cast, ↓wr_cons, ↓wr_nil, ↓wo_callf, wo_some, opQ_eq, Nat.reduceAdd, Nat.reduceLT, Nat.reduceLeDiff, Nat.reduceEqDiff, ↓reduceIte, hasExt, cntFs, idxFs, clnFs, ovlFs, List.contains_nil, List.any_cons, List.any_nil, Nat.reduceBEq, setC, List.length_set, eq_self, Nat.zero_add, hal, cd, wp_done, ↓set_sorti, id_eq]
        · exact ⟨rfl, rfl⟩
      have w1 : IntKind.i64.wrap ((acts.length : Int) - 1) = acts.length - 1 := wrap_ok (by omega) (by omega)
      rw [wp_pick rfl]
      simp only [opsOf, List.filterMap_cons, List.filterMap_nil, List.getElem?_toArray, List.getElem?_cons_zero, List.getElem?_cons_succ]
      by_cases b8 : (q8 : Int) = 0
      · simp (maxSteps := 1000000) (disch := omega) only [push_cast, ↓wr_cons, ↓wr_consgL, ↓wr_nil, ↓wo_pickL, ↓wo_callf, wo_some, opQ_eq, pickO_true, pickO_false, gstep_tt, gstep_ff, gstep_tf, int_bne, int_beq, Nat.reduceLT, Nat.reduceEqDiff, Int.reduceEq, ↓reduceIte, hasExt, cntFs, idxFs, clnFs, ovlFs, List.contains_nil, List.any_cons, List.any_nil, Nat.reduceBEq, setC, List.length_set, reduceCtorEq, eq_self, not_true_eq_false, hal, h0, h1, h5, h7, h9, cs, ca, t8, b8, dUn, wp_done]
      by_cases b1 : (i : Int) = acts.length - 1
      · have hb1 := decide_eq_true b1
        simp (maxSteps := 1000000) (disch := omega) only [push_cast, ↓wr_cons, ↓wr_consgL, ↓wr_nil, ↓wo_pickL, ↓wo_callf, wo_some, opQ_eq, pickO_true, pickO_false, gstep_tt, gstep_ff, int_bne, int_beq, Nat.reduceLT, Nat.reduceEqDiff, Int.reduceEq, ↓reduceIte, hasExt, cntFs, idxFs, clnFs, ovlFs, List.contains_nil, List.any_cons, List.any_nil, Nat.reduceBEq, setC, List.length_set, reduceCtorEq, eq_self, not_true_eq_false, hal, h0, h1, h5, h7, h9, cs, ca, t8, b8, hb1, w1, List.length_map, dUn, wp_done]
      · simp (maxSteps := 1000000) (disch := omega) only [push_cast, ↓wr_cons, ↓wr_consgL, ↓wr_nil, ↓wo_pickL, ↓wo_callf, wo_some, opQ_eq, pickO_false, gstep_ff, gstep_ft, int_bne, int_beq, Nat.reduceLT, Nat.reduceEqDiff, Int.reduceEq, ↓reduceIte, hasExt, cntFs, idxFs, clnFs, ovlFs, List.contains_nil, List.any_cons, List.any_nil, Nat.reduceBEq, setC, List.length_set, reduceCtorEq, eq_self, not_true_eq_false, hal, h0, h1, h5, h7, h9, cs, t8, b8, b1, w1, List.length_map, wp_done]
    clear hal h0 h1 h5 h7 h9 a
    rintro a V ⟨rfl, hal, h0, h1, h5, h7, h9, h70⟩
    have hnext := playF_succ (s := ⟨l, lx, []⟩) hc
    simp (maxSteps := 1000000) (disch := omega) only [push_cast, ↓wc_condL, ↓wc_region, ↓wr_cons, ↓wr_nil, ↓wc_skip, wo_some, opQ_eq, seqQ_normal, blockQ_normal, iterQ_normal, pickC_false, Nat.reduceAdd, Nat.reduceMul, Nat.reduceLT, Nat.reduceEqDiff, ↓reduceIte, planIds, List.contains_cons, List.contains_nil, Nat.reduceBEq, setC, List.length_set, reduceCtorEq, eq_self, Nat.zero_add, hal, h0, h1, h5, h7, h9, h70, wrap_ok, Int.natCast_add, Int.natCast_one]
    rw [hnext]
    exact ⟨hlt, lab4, hs3, h1r, hok2.mono (by omega)⟩
  obtain ⟨_, T, ho, rfl⟩ := this
  exact ⟨T, ho⟩
end Go.Proofs.YtajhgnefcddenaaGreatDoor.Dm
namespace Go.Proofs.YtajhgnefcddenaaGreatDoor
open Go Go.ChangeShapes Go.WideShapes Go.ChangeAt Go.RowKit Dm
theorem StockActs_walk {W : World} {xs : List D} {vs : Array Value} (ht : TVs Tryz.prog [22, 57] xs) (hv : VRs W ⟨Tryz.prog, fun _ => none, fun g => g < W.heap.size⟩ xs vs.toList) (hp : pureL xs = true) :
    Calls Tryz.prog 5 vs W fun e W' => e = .returned (.bool true) ∧ Below W.heap.size W W' := by
  obtain ⟨d1, _, rfl, h1, ht⟩ := ht.inv
  obtain ⟨d2, _, rfl, h2, ht⟩ := ht.inv
  have := ht.inv0
  subst this
  obtain ⟨v1, v2, hvs⟩ : ∃ v1 v2, vs.toList = [v1, v2] := by
    have := hv.1
    match vs.toList, this with
    | [v1, v2], _ => exact ⟨v1, v2, rfl⟩
  rw [hvs] at hv
  have r1 := hv.head
  have r2 := hv.tail.head
  obtain ⟨n, hn⟩ : ∃ n : Nat, 9223372036854775807 + 5000 ≤ n := ⟨_, Nat.le_refl _⟩
  obtain ⟨l, lx, z1, w1⟩ := Cfgs_front h1 hn
  obtain ⟨acts, ax, z2, w2⟩ := Acts_front h2
  obtain ⟨T, hT⟩ := StockActs_d (n := n) (lx := lx) (ax := ax) (by omega) z1 z2
  refine true_of_dcall envOk (I := fun g => g < W.heap.size) hT (fun g h => h) (fun g cs hg => by cases hg) ?_
  rw [hvs]
  exact VRs.cons (w1 _ _ _ r1) (VRs.cons (w2 _ _ _ r2) VRs.nil)
end Go.Proofs.YtajhgnefcddenaaGreatDoor
