/-
  The walk of StockTogether.
-/
import Derived.Test.YtajhgnefcddenaaGreatDoorStF
import Derived.Test.YtajhgnefcddenaaGreatDoorWpt
namespace Go.Proofs.YtajhgnefcddenaaGreatDoor.Dm
open Go Gw Go.RowKit
set_option linter.unusedSimpArgs false
set_option linter.unusedSimpArgs false

theorem ze_lid : zeroT Tryz.prog 50 = some (.agg [.str (ByteArray.mk #[]), .int .i64 0, .int .i64 0, .str (ByteArray.mk #[])]) := by kernel_rfl
def planT6 : Plan := ((steps [0, 1, 2, 3, 4, 5, 6] (.both (steps [7, 8] (.both (.step 9 (.step 10 (steps [11, 12] .done))) (.step 10 (.step 9 (steps [11, 12] .done))))) (.both (.step 9 (.both (steps [7, 8] (.step 10 (steps [11, 12] .done))) (.step 10 (.both (steps [7, 8, 11, 12] .done) (steps [11] (.both (steps [7, 8, 12] .done) (steps [12, 7, 8] .done))))))) (.step 10 (.both (steps [7, 8] (.step 9 (steps [11, 12] .done))) (.step 9 (.both (steps [7, 8, 11, 12] .done) (steps [11] (.both (steps [7, 8, 12] .done) (steps [12, 7, 8] .done))))))))))).andThen (steps [13] .done)
def planT12 : Plan := (steps [0, 1, 2, 3, 4, 5, 6, 8, 11, 14] (.both (steps [7, 9, 10, 12] .done) (.both (steps [9, 10] (.both (steps [7, 12] .done) (steps [12, 7] .done))) (steps [12] (.both (steps [7, 9, 10] .done) (steps [9, 7, 10] .done)))))).andThen (steps [13, 15, 16, 17] .done)
set_option maxHeartbeats 32000000 in
set_option maxRecDepth 100000 in
theorem StockTogether_mw {n : Nat} (hn : 1300 ≤ n) {l : List Cfg} {acts : List Cal} {lx ax : Bool} {z : Cal} (hzo : z.Ok) (hz : ∀ c ∈ l, CfgZ (n - 3) c) (hacts : ∀ a ∈ acts, a.Ok) {a : List D}
    (hal : a.length = 124) (h0 : a[0]? = some (.sl 2 (l.map Cfg.enc) lx)) (h1 : a[1]? = some (.sl 6 (acts.map Cal.enc) ax)) (h2 : a[2]? = some (.agg z.enc)) {c : Code} (hb : Tryz.f6.body = some c) (hl : linC E c = true) :
    MW E c (EndQ Tryz.f6) a [] := by
  have hC : CallOk E (dcall E n) := dcall_ok envOk n
  have cw := fun st S => awake15_c (n := n) (by omega) st S
  obtain ⟨rb, cr, hr⟩ := Right_c (n := n) (l := l) (acts := acts) (lx := lx) (ax := ax) (by omega) hz
  have hend : ∀ a T, a[6]? = some (.bool true) → EndQ Tryz.f6 .ret a T := fun a T h => end_ret rfl h
  obtain ⟨kd, g, mo, eq, kc, w⟩ := z
  obtain ⟨ha1, ha2, ha3, ha4, ha5, ha6, ha7⟩ := id hzo
  dsimp only at ha1 ha2 ha3 ha4 ha5 ha6 ha7
  simp only [Cal.enc] at h2
  have cx := Id_c (n := n) (k := g) (by omega) ha2
  have cy := Id_c (n := n) (k := mo) (by omega) ha3
  have cc := Class_c (n := n) (k := kc) (by omega) ha5
  obtain ⟨B, hB⟩ : ∃ B, B = Ob.row 6 [[.int .u8 kd, .int .u8 g, .int .u8 mo, .int .u8 eq, .int .u8 kc, .int .i8 w]] := ⟨_, rfl⟩
  
  cases hb
  obtain ⟨l0, hl⟩ := lin_seq hl
  refine MW.cut (n := n) envOk hC (fun a T => T = [B] ∧ a.length = 124 ∧ a[0]? = some (.sl 2 (l.map Cfg.enc) lx) ∧ a[1]? = some (.sl 6 (acts.map Cal.enc) ax) ∧ a[5]? = some (.loc 0 0 0)) l0 ?_ ?_
  · simp (maxSteps := 1000000) (disch := omega) only [push_cast, ↓wc_region, ↓wr_cons, ↓wr_nil, wo_some, opQ_eq, Nat.reduceAdd, Nat.reduceMul, Nat.reduceLT, Nat.reduceEqDiff, ↓reduceIte, planIds, List.contains_cons, List.contains_nil, Nat.reduceBEq, setC, List.length_set, reduceCtorEq, eq_self, Nat.zero_add, hal, h0, h1, h2, hB]
  clear hal h0 h1 h2 a
  rintro a T ⟨rfl, hal, h0, h1, h5⟩
  obtain ⟨l1, hl⟩ := lin_seq hl
  refine MW.cutR (n := n) hC (fun a T => rb = true ∧ T = [B] ∧ a.length = 124 ∧ a[0]? = some (.sl 2 (l.map Cfg.enc) lx) ∧ a[1]? = some (.sl 6 (acts.map Cal.enc) ax) ∧ a[5]? = some (.loc 0 0 0)) l1 ?_ hend ?_
  · cases rb
    · simp (maxSteps := 1000000) (disch := omega) only [push_cast, ↓wc_seq, ↓wc_condL, ↓wc_region, ↓wr_cons, ↓wr_nil, ↓wo_callf, ↓wc_ret, wo_some, opQ_eq, seqQ_normal, pickC_true, Nat.reduceAdd, Nat.reduceMul, Nat.reduceLT, Nat.reduceEqDiff, ↓reduceIte, planIds, hasExt, cntFs, idxFs, clnFs, ovlFs, List.contains_cons, List.contains_nil, List.any_cons, List.any_nil, Nat.reduceBEq, setC, List.length_set, eq_self, Nat.zero_add, hal, h0, h1, cr, cw, dUn, RetQ_ret]
    · simp (maxSteps := 1000000) (disch := omega) only [push_cast, ↓wc_seq, ↓wc_condL, ↓wc_region, ↓wr_cons, ↓wr_nil, ↓wo_callf, ↓wc_skip, wo_some, opQ_eq, seqQ_normal, pickC_false, Nat.reduceAdd, Nat.reduceMul, Nat.reduceLT, Nat.reduceEqDiff, ↓reduceIte, planIds, hasExt, cntFs, idxFs, clnFs, ovlFs, List.contains_cons, List.contains_nil, List.any_cons, List.any_nil, Nat.reduceBEq, setC, List.length_set, reduceCtorEq, eq_self, Nat.zero_add, hal, h0, h1, h5, cr, dUn, RetQ_normal]
  clear hal h0 h1 h5 a
  rintro a T ⟨hrb, rfl, hal, h0, h1, h5⟩
  subst hrb
  obtain ⟨hr1, hr2, hr3⟩ := hr rfl
  have hg := good_of (n := n - 2) (by omega) hr3 (fun c hc => hz c hc)
  obtain ⟨T1, lab1, p, cp, hs, hok, st1⟩ := Played_c (S := [B]) (lab := fun _ => []) (o := 1) (n := n) (lx := lx) (ax := ax) (by omega) hg (fun _ _ => rfl) hr2 hacts
  have hB1 := (st1.free (x := 0) (ob := B) rfl rfl)
  generalize playF ⟨l, lx, []⟩ acts = s at *
  obtain ⟨l2, hl⟩ := lin_seq hl
  refine MW.cut (n := n) envOk hC (fun a T => T = T1 ∧ a.length = 124 ∧ a[5]? = some (.loc 0 0 0) ∧ a[7]? = some (.loc p 0 0) ∧ a[8]? = some (.bool true)) l2 ?_ ?_
  · simp (maxSteps := 1000000) (disch := omega) only [push_cast, ↓wc_region, ↓wr_cons, ↓wr_nil, ↓wo_callf, wo_some, opQ_eq, Nat.reduceAdd, Nat.reduceMul, Nat.reduceLT, Nat.reduceEqDiff, ↓reduceIte, planIds, hasExt, cntFs, idxFs, clnFs, ovlFs, List.contains_cons, List.contains_nil, List.any_cons, List.any_nil, Nat.reduceBEq, setC, List.length_set, eq_self, Nat.zero_add, hal, h0, h1, h5, cp]
  clear hal h0 h1 h5 a
  rintro a T ⟨rfl, hal, h5, h7, h8⟩
  obtain ⟨l3, hl⟩ := lin_seq hl
  refine MW.cut (n := n) envOk hC (fun a U => U = T ∧ a.length = 124 ∧ a[5]? = some (.loc 0 0 0) ∧ a[7]? = some (.loc p 0 0)) l3 ?_ ?_
  · simp (maxSteps := 1000000) (disch := omega) only [push_cast, ↓wc_seq, ↓wc_condL, ↓wc_region, ↓wr_cons, ↓wr_nil, ↓wc_skip, wo_some, opQ_eq, seqQ_normal, pickC_false, Nat.reduceAdd, Nat.reduceMul, Nat.reduceLT, Nat.reduceEqDiff, ↓reduceIte, planIds, List.contains_cons, List.contains_nil, Nat.reduceBEq, setC, List.length_set, eq_self, Nat.zero_add, hal, h5, h7, h8, dUn]
  clear hal h5 h7 h8 a
  rintro a T ⟨rfl, hal, h5, h7⟩
  obtain ⟨x, hx⟩ : ∃ x, x = idF g := ⟨_, rfl⟩
  obtain ⟨y, hy⟩ : ∃ y, y = idF mo := ⟨_, rfl⟩
  have hxo : x.Ok := by rw [hx]; exact idF_ok g
  have hyo : y.Ok := by rw [hy]; exact idF_ok mo
  rw [← hx] at cx
  rw [← hy] at cy
  simp only [Lid.enc] at cx cy
  obtain ⟨l4, hl⟩ := lin_seq hl
  have hb0 : ∀ m, (T ++ m)[0]? = some B := fun m => get_old hB1.1
  refine MW.cut (n := n) envOk hC (fun a U => U = T ++ [.row 4 [x.enc], .row 4 [y.enc]] ∧ a.length = 124 ∧ a[5]? = some (.loc 0 0 0) ∧ a[7]? = some (.loc p 0 0) ∧ a[9]? = some (.loc T.length 0 0) ∧ a[10]? = some (.loc (T.length + 1) 0 0) ∧ a[11]? = some (.int .i64 w)) l4 ?_ ?_
  · have g0 : ∀ a b : Ob, (T ++ [a, b])[T.length + 0]? = some a := fun a b => by simp
    have g1 : ∀ a b : Ob, (T ++ [a, b])[T.length + 1]? = some b := fun a b => by simp
    have g0' : ∀ a b : Ob, (T ++ [a, b])[T.length]? = some a := fun a b => by simp
    have s0 : ∀ a b c : Ob, (T ++ [a, b]).set (T.length + 0) c = T ++ [c, b] := fun a b c => by simp
    have s0' : ∀ a b c : Ob, (T ++ [a, b]).set T.length c = T ++ [c, b] := fun a b c => by simp
    have s1 : ∀ a b c : Ob, (T ++ [a, b]).set (T.length + 1) c = T ++ [a, c] := fun a b c => by simp
    rw [wc_planL (L := [9, 10]) (p := planT6) rfl]
    unfold planT6
    apply wp_then
    show WR (planD _ _ _ _ _ _ _ (T ++ [.dead, .dead])) _
    rw [wp_pickL rfl]
    simp only [opsOf, List.filterMap_cons, List.filterMap_nil, List.getElem?_toArray, List.getElem?_cons_zero, List.getElem?_cons_succ]
    simp (maxSteps := 1000000) (disch := omega) only [push_cast, ↓wr_cons, ↓wr_nil, ↓wo_callf, wo_some, opQ_eq, Nat.reduceLT, Nat.reduceEqDiff, ↓reduceIte, hasExt, cntFs, idxFs, clnFs, ovlFs, List.contains_nil, List.any_cons, List.any_nil, Nat.reduceBEq, setC, List.length_set, eq_self, Nat.zero_add, hal, h5, hb0, hB, cx, cy, Lid.enc]
    apply wp_bothL
    · rw [wp_pickL rfl]
      simp only [opsOf, List.filterMap_cons, List.filterMap_nil, List.getElem?_toArray, List.getElem?_cons_zero, List.getElem?_cons_succ]
      simp (maxSteps := 1000000) (disch := omega) only [push_cast, ↓wr_cons, ↓wr_nil, wo_some, opQ_eq, Nat.reduceLT, ↓reduceIte, setC, List.length_set, eq_self, hal, hb0, hB, wrap_ok]
      apply wp_bothL
      · rw [wp_slot rfl rfl ze_lid rfl (g0 _ _)]
        simp (maxSteps := 1000000) (disch := omega) only [push_cast, Nat.reduceAdd, Nat.zero_add, Nat.add_zero, s0', ↓set_sorti, id_eq]
        rw [wp_slot rfl rfl ze_lid rfl (g1 _ _)]
        rw [wp_pickL rfl]
        simp only [opsOf, List.filterMap_cons, List.filterMap_nil, List.getElem?_toArray, List.getElem?_cons_zero, List.getElem?_cons_succ]
        simp (maxSteps := 1000000) (disch := omega) only [push_cast, ↓wr_cons, ↓wr_nil, wo_some, opQ_eq, Nat.reduceAdd, Nat.reduceLT, Nat.reduceLeDiff, Nat.reduceEqDiff, ↓reduceIte, setC, List.length_set, eq_self, Nat.zero_add, hal, g1, s1, g0', s0', wp_doneL, ↓set_sorti, id_eq]
        exact ⟨rfl, rfl⟩
      · rw [wp_slot rfl rfl ze_lid rfl (g1 _ _)]
        simp (maxSteps := 1000000) (disch := omega) only [push_cast, Nat.reduceAdd, Nat.zero_add, s1, ↓set_sorti, id_eq]
        rw [wp_slot rfl rfl ze_lid rfl (g0 _ _)]
        rw [wp_pickL rfl]
        simp only [opsOf, List.filterMap_cons, List.filterMap_nil, List.getElem?_toArray, List.getElem?_cons_zero, List.getElem?_cons_succ]
        simp (maxSteps := 1000000) (disch := omega) only [push_cast, ↓wr_cons, ↓wr_nil, wo_some, opQ_eq, Nat.reduceAdd, Nat.reduceLT, Nat.reduceLeDiff, Nat.reduceEqDiff, ↓reduceIte, setC, List.length_set, eq_self, Nat.zero_add, Nat.add_zero, hal, g1, s1, g0', s0', wp_doneL, ↓set_sorti, id_eq]
      · exact ⟨rfl, rfl⟩
    · apply wp_bothL
      · rw [wp_slot rfl rfl ze_lid rfl (g0 _ _)]
        simp (maxSteps := 1000000) (disch := omega) only [push_cast, Nat.reduceAdd, Nat.zero_add, Nat.add_zero, s0', ↓set_sorti, id_eq]
        apply wp_bothL
        · rw [wp_pickL rfl]
          simp only [opsOf, List.filterMap_cons, List.filterMap_nil, List.getElem?_toArray, List.getElem?_cons_zero, List.getElem?_cons_succ]
          simp (maxSteps := 1000000) (disch := omega) only [push_cast, ↓wr_cons, ↓wr_nil, wo_some, opQ_eq, Nat.reduceLT, ↓reduceIte, setC, List.length_set, eq_self, hal, hb0, hB, wrap_ok]
          rw [wp_slot rfl rfl ze_lid rfl (g1 _ _)]
          rw [wp_pickL rfl]
          simp only [opsOf, List.filterMap_cons, List.filterMap_nil, List.getElem?_toArray, List.getElem?_cons_zero, List.getElem?_cons_succ]
          simp (maxSteps := 1000000) (disch := omega) only [push_cast, ↓wr_cons, ↓wr_nil, wo_some, opQ_eq, Nat.reduceAdd, Nat.reduceLT, Nat.reduceLeDiff, Nat.reduceEqDiff, ↓reduceIte, setC, List.length_set, eq_self, Nat.zero_add, hal, g1, s1, g0', s0', wp_doneL, ↓set_sorti, id_eq]
          exact ⟨rfl, rfl⟩
        · rw [wp_slot rfl rfl ze_lid rfl (g1 _ _)]
          simp (maxSteps := 1000000) (disch := omega) only [push_cast, Nat.reduceAdd, Nat.zero_add, s1, ↓set_sorti, id_eq]
          apply wp_bothL
          · rw [wp_pickL rfl]
            simp only [opsOf, List.filterMap_cons, List.filterMap_nil, List.getElem?_toArray, List.getElem?_cons_zero, List.getElem?_cons_succ]
            simp (maxSteps := 1000000) (disch := omega) only [push_cast, ↓wr_cons, ↓wr_nil, wo_some, opQ_eq, Nat.reduceAdd, Nat.reduceLT, Nat.reduceLeDiff, Nat.reduceEqDiff, ↓reduceIte, setC, List.length_set, eq_self, Nat.zero_add, hal, hb0, hB, g1, s1, g0', s0', wrap_ok, wp_doneL]
            exact ⟨rfl, rfl⟩
          · rw [wp_pickL rfl]
            simp only [opsOf, List.filterMap_cons, List.filterMap_nil, List.getElem?_toArray, List.getElem?_cons_zero, List.getElem?_cons_succ]
            simp (maxSteps := 1000000) (disch := omega) only [push_cast, ↓wr_cons, ↓wr_nil, wo_some, opQ_eq, Nat.reduceAdd, Nat.reduceLT, Nat.reduceLeDiff, Nat.reduceEqDiff, ↓reduceIte, setC, List.length_set, eq_self, Nat.zero_add, hal, g0', s0']
            apply wp_bothL
            · rw [wp_pickL rfl]
              simp only [opsOf, List.filterMap_cons, List.filterMap_nil, List.getElem?_toArray, List.getElem?_cons_zero, List.getElem?_cons_succ]
              simp (maxSteps := 1000000) (disch := omega) only [push_cast, ↓wr_cons, ↓wr_nil, wo_some, opQ_eq, Nat.reduceAdd, Nat.reduceLT, Nat.reduceLeDiff, Nat.reduceEqDiff, ↓reduceIte, setC, List.length_set, eq_self, Nat.zero_add, hal, hb0, hB, g1, s1, wrap_ok, wp_doneL]
              exact ⟨rfl, rfl⟩
            · rw [wp_pickL rfl]
              simp only [opsOf, List.filterMap_cons, List.filterMap_nil, List.getElem?_toArray, List.getElem?_cons_zero, List.getElem?_cons_succ]
              simp (maxSteps := 1000000) (disch := omega) only [push_cast, ↓wr_cons, ↓wr_nil, wo_some, opQ_eq, Nat.reduceAdd, Nat.reduceLT, Nat.reduceLeDiff, Nat.reduceEqDiff, ↓reduceIte, setC, List.length_set, eq_self, Nat.zero_add, hal, hb0, hB, g1, s1, wrap_ok, wp_doneL]
            · exact ⟨rfl, rfl⟩
          · exact ⟨rfl, rfl⟩
        · exact ⟨rfl, rfl⟩
      · rw [wp_slot rfl rfl ze_lid rfl (g1 _ _)]
        simp (maxSteps := 1000000) (disch := omega) only [push_cast, Nat.reduceAdd, Nat.zero_add, s1, ↓set_sorti, id_eq]
        apply wp_bothL
        · rw [wp_pickL rfl]
          simp only [opsOf, List.filterMap_cons, List.filterMap_nil, List.getElem?_toArray, List.getElem?_cons_zero, List.getElem?_cons_succ]
          simp (maxSteps := 1000000) (disch := omega) only [push_cast, ↓wr_cons, ↓wr_nil, wo_some, opQ_eq, Nat.reduceLT, ↓reduceIte, setC, List.length_set, eq_self, hal, hb0, hB, wrap_ok]
          rw [wp_slot rfl rfl ze_lid rfl (g0 _ _)]
          rw [wp_pickL rfl]
          simp only [opsOf, List.filterMap_cons, List.filterMap_nil, List.getElem?_toArray, List.getElem?_cons_zero, List.getElem?_cons_succ]
          simp (maxSteps := 1000000) (disch := omega) only [push_cast, ↓wr_cons, ↓wr_nil, wo_some, opQ_eq, Nat.reduceAdd, Nat.reduceLT, Nat.reduceLeDiff, Nat.reduceEqDiff, ↓reduceIte, setC, List.length_set, eq_self, Nat.zero_add, Nat.add_zero, hal, g1, s1, g0', s0', wp_doneL, ↓set_sorti, id_eq]
          exact ⟨rfl, rfl⟩
        · rw [wp_slot rfl rfl ze_lid rfl (g0 _ _)]
          simp (maxSteps := 1000000) (disch := omega) only [push_cast, Nat.reduceAdd, Nat.zero_add, Nat.add_zero, s0', ↓set_sorti, id_eq]
          apply wp_bothL
          · rw [wp_pickL rfl]
            simp only [opsOf, List.filterMap_cons, List.filterMap_nil, List.getElem?_toArray, List.getElem?_cons_zero, List.getElem?_cons_succ]
            simp (maxSteps := 1000000) (disch := omega) only [push_cast, ↓wr_cons, ↓wr_nil, wo_some, opQ_eq, Nat.reduceAdd, Nat.reduceLT, Nat.reduceLeDiff, Nat.reduceEqDiff, ↓reduceIte, setC, List.length_set, eq_self, Nat.zero_add, hal, hb0, hB, g1, s1, g0', s0', wrap_ok, wp_doneL]
            exact ⟨rfl, rfl⟩
          · rw [wp_pickL rfl]
            simp only [opsOf, List.filterMap_cons, List.filterMap_nil, List.getElem?_toArray, List.getElem?_cons_zero, List.getElem?_cons_succ]
            simp (maxSteps := 1000000) (disch := omega) only [push_cast, ↓wr_cons, ↓wr_nil, wo_some, opQ_eq, Nat.reduceAdd, Nat.reduceLT, Nat.reduceLeDiff, Nat.reduceEqDiff, ↓reduceIte, setC, List.length_set, eq_self, Nat.zero_add, hal, g0', s0']
            apply wp_bothL
            · rw [wp_pickL rfl]
              simp only [opsOf, List.filterMap_cons, List.filterMap_nil, List.getElem?_toArray, List.getElem?_cons_zero, List.getElem?_cons_succ]
              simp (maxSteps := 1000000) (disch := omega) only [push_cast, ↓wr_cons, ↓wr_nil, wo_some, opQ_eq, Nat.reduceAdd, Nat.reduceLT, Nat.reduceLeDiff, Nat.reduceEqDiff, ↓reduceIte, setC, List.length_set, eq_self, Nat.zero_add, hal, hb0, hB, g1, s1, wrap_ok, wp_doneL]
              exact ⟨rfl, rfl⟩
            · rw [wp_pickL rfl]
              simp only [opsOf, List.filterMap_cons, List.filterMap_nil, List.getElem?_toArray, List.getElem?_cons_zero, List.getElem?_cons_succ]
              simp (maxSteps := 1000000) (disch := omega) only [push_cast, ↓wr_cons, ↓wr_nil, wo_some, opQ_eq, Nat.reduceAdd, Nat.reduceLT, Nat.reduceLeDiff, Nat.reduceEqDiff, ↓reduceIte, setC, List.length_set, eq_self, Nat.zero_add, hal, hb0, hB, g1, s1, wrap_ok, wp_doneL]
            · exact ⟨rfl, rfl⟩
          · exact ⟨rfl, rfl⟩
        · exact ⟨rfl, rfl⟩
      · exact ⟨rfl, rfl⟩
    rw [wp_pickL rfl]
    simp only [opsOf, List.filterMap_cons, List.filterMap_nil, List.getElem?_toArray, List.getElem?_cons_zero, List.getElem?_cons_succ]
    simp (maxSteps := 1000000) (disch := omega) only [push_cast, ↓wr_cons, ↓wr_nil, wo_some, opQ_eq, Nat.reduceLT, Nat.reduceEqDiff, ↓reduceIte, setC, List.length_set, eq_self, hal, h5, h7, wp_doneL]
  clear hal h5 h7 a
  rintro a U ⟨hU, hal, h5, h7, h9, h10, h11⟩
  have hsU : SAt U lab1 1 p s := by rw [hU]; exact hs.push _
  have hU0 : U[0]? = some B := by rw [hU]; exact hb0 _
  have hUx : U[T.length]? = some (.row 4 [x.enc]) := by rw [hU]; simp
  have hUy : U[T.length + 1]? = some (.row 4 [y.enc]) := by rw [hU]; simp
  have lx0 : lab1 T.length = [] := hs.1 _ (Nat.le_refl _)
  have ly0 : lab1 (T.length + 1) = [] := hs.1 _ (by omega)
  generalize T.length = X at *
  have he := eq_lid x y
  have hpl := plain_lid
  obtain ⟨l5, hl⟩ := lin_seq hl
  refine MW.cutR (n := n) hC (fun a V => x ≠ y ∧ V = U ∧ a.length = 124 ∧ a[5]? = some (.loc 0 0 0) ∧ a[7]? = some (.loc p 0 0) ∧ a[9]? = some (.loc X 0 0) ∧ a[10]? = some (.loc (X + 1) 0 0) ∧ a[11]? = some (.int .i64 w)) l5 ?_ hend ?_
  · by_cases e : x = y
    · rw [decide_eq_true e] at he
      simp only [Lid.enc] at he hUx hUy
      simp (maxSteps := 1000000) (disch := omega) only [push_cast, ↓wc_seq, ↓wc_condL, ↓wc_region, ↓wr_cons, ↓wr_nil, ↓wo_callf, ↓wc_ret, wo_some, opQ_eq, seqQ_normal, pickC_true, Nat.reduceAdd, Nat.reduceMul, Nat.reduceLT, Nat.reduceLeDiff, Nat.reduceEqDiff, ↓reduceIte, planIds, hasExt, cntFs, idxFs, clnFs, ovlFs, List.contains_cons, List.contains_nil, List.any_cons, List.any_nil, Nat.reduceBEq, setC, List.length_set, eq_self, Nat.zero_add, ne_eq, hal, h9, h10, hUx, hUy, he, hpl, cw, RetQ_ret]
    · rw [decide_eq_false e] at he
      simp only [Lid.enc] at he hUx hUy
      simp (maxSteps := 1000000) (disch := omega) only [push_cast, ↓wc_seq, ↓wc_condL, ↓wc_region, ↓wr_cons, ↓wr_nil, ↓wc_skip, wo_some, opQ_eq, seqQ_normal, pickC_false, Nat.reduceAdd, Nat.reduceMul, Nat.reduceLT, Nat.reduceLeDiff, Nat.reduceEqDiff, ↓reduceIte, planIds, List.contains_cons, List.contains_nil, Nat.reduceBEq, setC, List.length_set, eq_self, Nat.zero_add, ne_eq, hal, h5, h7, h9, h10, h11, hUx, hUy, he, hpl, RetQ_normal]
      exact e
  clear hal h5 h7 h9 h10 h11 a
  rintro a V ⟨hxy, rfl, hal, h5, h7, h9, h10, h11⟩
  obtain ⟨l6, hl⟩ := lin_seq hl
  have ok9 : StkOk 9999 s := hok.mono (by omega)
  refine MW.seq (MW.callf_k (k := 1) hC rfl rfl rfl rfl (R := fun d Z => d = .loc (V.length + 1) 0 0 ∧ ∃ lab', SAt Z lab' 2 (V.length + 1) s ∧ Step 2 V lab1 Z lab') ?_)
  simp only [List.take_succ_cons, List.take_zero]
  simp (maxSteps := 1000000) (disch := omega) only [push_cast, ↓wr_cons, ↓wr_nil, wo_some, opQ_eq, Nat.reduceLT, ↓reduceIte, setC, List.length_set, eq_self, hal, h7]
  refine ⟨Copy_calls hsU ok9, ?_⟩
  rintro d Z ⟨rfl, lab3, ht, st3⟩
  have hs3 := hsU.other st3 (by omega)
  have z0 := st3.free hU0 hB1.2
  have zx := st3.free hUx lx0
  have zy := st3.free hUy ly0
  generalize V.length + 1 = K at *
  show MW E _ _ _ _
  refine mw_gen (P := fun a => a.length = 124 ∧ a[5]? = some (.loc 0 0 0) ∧ a[7]? = some (.loc p 0 0) ∧ a[9]? = some (.loc X 0 0) ∧ a[10]? = some (.loc (X + 1) 0 0) ∧ a[11]? = some (.int .i64 w) ∧ a[12]? = some (.loc K 0 0)) (by simp (maxSteps := 1000000) (disch := omega) only [push_cast, Nat.reduceLT, Nat.reduceEqDiff, ↓reduceIte, setC, List.length_set, eq_self, hal, h5, h7, h9, h10, h11]) ?_
  clear hal h5 h7 h9 h10 h11 a
  rintro a ⟨hal, h5, h7, h9, h10, h11, h12⟩
  refine MW.wc (n := n) envOk hC hl ?_
  have hws : w ≤ 127 := ha7
  have hcl : ∃ cl, cl = clsN kc := ⟨_, rfl⟩
  obtain ⟨cl, hcl⟩ := hcl
  rw [← hcl] at cc
  have one : ∀ u : Lid, u.Ok → ∀ id ∈ [u], id.Ok := fun u hu id hid => by rw [List.mem_singleton.1 hid]; exact hu
  obtain ⟨T5, lab5, c1, ht5, st5⟩ := Sell_c (n := n) (ids := [x]) (by omega) ht ok9 (by simp) (one x hxo) (.inr ⟨true, rfl⟩) cl w
  have ok5 : StkOk 9999 (s.sell [x] cl w).2 := (sell_keeps hok [x] cl w hws (by omega)).mono (by omega)
  obtain ⟨T6, lab6, c2, ht6, st6⟩ := Sell_c (n := n) (ids := [y]) (by omega) ht5 ok5 (by simp) (one y hyo) (.inr ⟨true, rfl⟩) cl w
  have s5 := hs3.other st5 (by omega)
  have s6 := s5.other st6 (by omega)
  have f0 := st5.free z0.1 z0.2
  have fx := st5.free zx.1 zx.2
  have fy := st5.free zy.1 zy.2
  have e0 := st6.free f0.1 f0.2
  have ex := st6.free fx.1 fx.2
  have ey := st6.free fy.1 fy.2
  obtain ⟨law1, law2⟩ := together_law (s := s) (x := x) (y := y) (cl := cl) (n := w) hxy
  have z01 := z0.1
  have zx1 := zx.1
  have zy1 := zy.1
  have f01 := f0.1
  have fx1 := fx.1
  have fy1 := fy.1
  rw [hB] at z01 f01
  simp only [Lid.enc] at c1 c2 zx1 zy1 fx1 fy1
  simp only [List.map_cons, List.map_nil, Lid.enc] at c1 c2
  refine wc_scut (fun a Y => Y = Z ∧ a.length = 124 ∧ a[5]? = some (.loc 0 0 0) ∧ a[7]? = some (.loc p 0 0) ∧ a[9]? = some (.loc X 0 0) ∧ a[10]? = some (.loc (X + 1) 0 0) ∧ a[11]? = some (.int .i64 w) ∧ a[12]? = some (.loc K 0 0)) ?_ ?_
  · simp (maxSteps := 1000000) (disch := omega) only [push_cast, ↓wc_seq, ↓wc_condL, ↓wc_region, ↓wr_cons, ↓wr_nil, ↓wc_skip, wo_some, opQ_eq, seqQ_normal, pickC_false, Nat.reduceAdd, Nat.reduceMul, Nat.reduceLT, Nat.reduceEqDiff, ↓reduceIte, planIds, List.contains_cons, List.contains_nil, Nat.reduceBEq, setC, List.length_set, eq_self, Nat.zero_add, hal, h5, h7, h9, h10, h11, h12, eqp_stk]
  clear hal h5 h7 h9 h10 h11 h12 a
  rintro a Y ⟨rfl, hal, h5, h7, h9, h10, h11, h12⟩
  refine wc_scut (fun a V' => V' = T6 ∧ a.length = 124 ∧ a[5]? = some (.loc 0 0 0) ∧ a[7]? = some (.loc p 0 0) ∧ a[9]? = some (.loc X 0 0) ∧ a[10]? = some (.loc (X + 1) 0 0) ∧ a[11]? = some (.int .i64 w) ∧ a[12]? = some (.loc K 0 0) ∧ a[13]? = some (.int .i64 (s.sell [x] cl w).1) ∧ a[14]? = some (.int .i64 ((s.sell [x] cl w).2.sell [y] cl w).1)) ?_ ?_
  · rw [wc_plan (p := planT12) rfl]
    unfold planT12
    apply wp_then
    rw [wp_pick rfl]
    simp only [opsOf, List.filterMap_cons, List.filterMap_nil, List.getElem?_toArray, List.getElem?_cons_zero, List.getElem?_cons_succ]
    simp (maxSteps := 1000000) (disch := omega) only [push_cast, ↓wr_cons, ↓wr_nil, ↓wo_callf, wo_some, opQ_eq, Nat.reduceAdd, Nat.reduceMul, Nat.reducePow, Nat.reduceLT, Nat.reduceLeDiff, Nat.reduceEqDiff, ↓wo_buildSlice, evParts, ↓reduceIte, hasExt, cntFs, idxFs, clnFs, ovlFs, List.contains_nil, List.any_cons, List.any_nil, Nat.reduceBEq, setC, List.length_set, eq_self, Nat.zero_add, hal, h5, h9, h11, h12, z01, zx1, cc]
    apply wp_both
    · rw [wp_pick rfl]
      simp only [opsOf, List.filterMap_cons, List.filterMap_nil, List.getElem?_toArray, List.getElem?_cons_zero, List.getElem?_cons_succ]
      simp (maxSteps := 1000000) (disch := omega) only [push_cast, ↓wr_cons, ↓wr_nil, ↓wo_callf, wo_some, opQ_eq, Nat.reduceAdd, Nat.reduceMul, Nat.reducePow, Nat.reduceLT, Nat.reduceLeDiff, Nat.reduceEqDiff, ↓wo_buildSlice, evParts, ↓reduceIte, hasExt, cntFs, idxFs, clnFs, ovlFs, List.contains_nil, List.any_cons, List.any_nil, Nat.reduceBEq, setC, List.length_set, eq_self, Nat.zero_add, hal, h10, f01, fy1, c1, wp_done, ↓set_sorti, id_eq]
      exact ⟨rfl, rfl⟩
    · apply wp_both
      · rw [wp_pick rfl]
        simp only [opsOf, List.filterMap_cons, List.filterMap_nil, List.getElem?_toArray, List.getElem?_cons_zero, List.getElem?_cons_succ]
        simp (maxSteps := 1000000) (disch := omega) only [push_cast, ↓wr_cons, ↓wr_nil, wo_some, opQ_eq, Nat.reduceAdd, Nat.reduceMul, Nat.reducePow, Nat.reduceLT, Nat.reduceLeDiff, Nat.reduceEqDiff, ↓wo_buildSlice, evParts, ↓reduceIte, setC, List.length_set, eq_self, Nat.zero_add, hal, h10, zy1, ↓set_sorti, id_eq]
        apply wp_both
        · rw [wp_pick rfl]
          simp only [opsOf, List.filterMap_cons, List.filterMap_nil, List.getElem?_toArray, List.getElem?_cons_zero, List.getElem?_cons_succ]
          simp (maxSteps := 1000000) (disch := omega) only [push_cast, ↓wr_cons, ↓wr_nil, ↓wo_callf, wo_some, opQ_eq, Nat.reduceLT, Nat.reduceEqDiff, ↓reduceIte, hasExt, cntFs, idxFs, clnFs, ovlFs, List.contains_nil, List.any_cons, List.any_nil, Nat.reduceBEq, setC, List.length_set, eq_self, hal, f01, c1, wp_done, ↓set_sorti, id_eq]
          exact ⟨rfl, rfl⟩
        · rw [wp_pick rfl]
          simp only [opsOf, List.filterMap_cons, List.filterMap_nil, List.getElem?_toArray, List.getElem?_cons_zero, List.getElem?_cons_succ]
          simp (maxSteps := 1000000) (disch := omega) only [push_cast, ↓wr_cons, ↓wr_nil, ↓wo_callf, wo_some, opQ_eq, Nat.reduceLT, Nat.reduceEqDiff, ↓reduceIte, hasExt, cntFs, idxFs, clnFs, ovlFs, List.contains_nil, List.any_cons, List.any_nil, Nat.reduceBEq, setC, List.length_set, eq_self, hal, z01, c1, wp_done, ↓set_sorti, id_eq]
        · exact ⟨rfl, rfl⟩
      · rw [wp_pick rfl]
        simp only [opsOf, List.filterMap_cons, List.filterMap_nil, List.getElem?_toArray, List.getElem?_cons_zero, List.getElem?_cons_succ]
        simp (maxSteps := 1000000) (disch := omega) only [push_cast, ↓wr_cons, ↓wr_nil, wo_some, opQ_eq, Nat.reduceLT, Nat.reduceEqDiff, ↓reduceIte, setC, List.length_set, eq_self, hal, z01, ↓set_sorti, id_eq]
        apply wp_both
        · rw [wp_pick rfl]
          simp only [opsOf, List.filterMap_cons, List.filterMap_nil, List.getElem?_toArray, List.getElem?_cons_zero, List.getElem?_cons_succ]
          simp (maxSteps := 1000000) (disch := omega) only [push_cast, ↓wr_cons, ↓wr_nil, ↓wo_callf, wo_some, opQ_eq, Nat.reduceAdd, Nat.reduceMul, Nat.reducePow, Nat.reduceLT, Nat.reduceLeDiff, Nat.reduceEqDiff, ↓wo_buildSlice, evParts, ↓reduceIte, hasExt, cntFs, idxFs, clnFs, ovlFs, List.contains_nil, List.any_cons, List.any_nil, Nat.reduceBEq, setC, List.length_set, eq_self, Nat.zero_add, hal, h10, fy1, c1, wp_done, ↓set_sorti, id_eq]
          exact ⟨rfl, rfl⟩
        · rw [wp_pick rfl]
          simp only [opsOf, List.filterMap_cons, List.filterMap_nil, List.getElem?_toArray, List.getElem?_cons_zero, List.getElem?_cons_succ]
          simp (maxSteps := 1000000) (disch := omega) only [push_cast, ↓wr_cons, ↓wr_nil, ↓wo_callf, wo_some, opQ_eq, Nat.reduceAdd, Nat.reduceMul, Nat.reducePow, Nat.reduceLT, Nat.reduceLeDiff, Nat.reduceEqDiff, ↓wo_buildSlice, evParts, ↓reduceIte, hasExt, cntFs, idxFs, clnFs, ovlFs, List.contains_nil, List.any_cons, List.any_nil, Nat.reduceBEq, setC, List.length_set, eq_self, Nat.zero_add, hal, h10, zy1, c1, wp_done, ↓set_sorti, id_eq]
        · exact ⟨rfl, rfl⟩
      · exact ⟨rfl, rfl⟩
    rw [wp_pick rfl]
    simp only [opsOf, List.filterMap_cons, List.filterMap_nil, List.getElem?_toArray, List.getElem?_cons_zero, List.getElem?_cons_succ]
    simp (maxSteps := 1000000) (disch := omega) only [push_cast, ↓wr_cons, ↓wr_nil, ↓wo_callf, wo_some, opQ_eq, Nat.reduceLT, Nat.reduceEqDiff, ↓reduceIte, hasExt, cntFs, idxFs, clnFs, ovlFs, List.contains_nil, List.any_cons, List.any_nil, Nat.reduceBEq, setC, List.length_set, eq_self, hal, h5, h7, h9, h10, h11, h12, cc, c2, wp_done]
  clear hal h5 h7 h9 h10 h11 h12 a
  rintro a V' ⟨rfl, hal, h5, h7, h9, h10, h11, h12, h13, h14⟩
  obtain ⟨-, m6, ps6, q6⟩ := id s6
  have su1 := sum_c (n := n) (by omega) q6 ok9 hxo
  have su2 := sum_c (n := n) (by omega) q6 ok9 hyo
  have two : ∀ id ∈ [x, y], id.Ok := fun id hid => by
    rcases List.mem_cons.1 hid with rfl | hid
    · exact hxo
    · rw [List.mem_singleton.1 hid]; exact hyo
  obtain ⟨T7, lab7, c3, s7, st7⟩ := Sell_c (n := n) (ids := [x, y]) (by omega) s6 ok9 (by simp) two (.inr ⟨true, rfl⟩) cl w
  have t7 := ht6.other st7 (by omega)
  have gx := st7.free ex.1 ex.2
  have gy := st7.free ey.1 ey.2
  have e01 := e0.1
  have ex1 := ex.1
  have ey1 := ey.1
  have gx1 := gx.1
  have gy1 := gy.1
  rw [hB] at e01
  simp only [List.map_cons, List.map_nil, Lid.enc] at c3
  simp only [Lid.enc] at su1 su2 ex1 ey1 gx1 gy1
  rw [wc_asc, wc_asc]
  refine wc_scut (fun a Y => Y = T7 ∧ a.length = 124 ∧ a[7]? = some (.loc p 0 0) ∧ a[9]? = some (.loc X 0 0) ∧ a[10]? = some (.loc (X + 1) 0 0) ∧ a[12]? = some (.loc K 0 0) ∧ a[15]? = some (.int .i64 (totF s x)) ∧ a[16]? = some (.int .i64 (totF s y)) ∧ a[17]? = some (.int .i64 (s.sell [x, y] cl w).1)) ?_ ?_
  · by_cases q1 : (s.sell [x] cl w).1 = 0
    · by_cases q2 : ((s.sell [x] cl w).2.sell [y] cl w).1 = 0
      · have q3 := law1.2 ⟨q1, q2⟩
        simp (maxSteps := 1000000) (disch := omega) only [push_cast, ↓wc_seq, ↓wc_condL, ↓wc_region, ↓wr_cons, ↓wr_consgL, ↓wr_nil, ↓wo_pickL, ↓wo_callf, ↓wc_skip, wo_some, opQ_eq, seqQ_normal, pickC_false, pickO_true, gstep_tt, int_beq, Nat.reduceAdd, Nat.reduceMul, Nat.reducePow, Nat.reduceLT, Nat.reduceLeDiff, Nat.reduceEqDiff, ↓wo_buildSlice, evParts, ↓reduceIte, planIds, hasExt, cntFs, idxFs, clnFs, ovlFs, List.contains_cons, List.contains_nil, List.any_cons, List.any_nil, Nat.reduceBEq, setC, List.length_set, eq_self, Nat.zero_add, hal, h5, h7, h9, h10, h11, h12, h13, h14, e01, ex1, ey1, su1, su2, c3, cc, q1, q2, q3, dEq]
      · have q3 : ¬ (s.sell [x, y] cl w).1 = 0 := fun h => q2 (law1.1 h).2
        simp (maxSteps := 1000000) (disch := omega) only [push_cast, ↓wc_seq, ↓wc_condL, ↓wc_region, ↓wr_cons, ↓wr_consgL, ↓wr_nil, ↓wo_pickL, ↓wo_callf, ↓wc_skip, wo_some, opQ_eq, seqQ_normal, pickC_false, pickO_true, gstep_tt, int_beq, Nat.reduceAdd, Nat.reduceMul, Nat.reducePow, Nat.reduceLT, Nat.reduceLeDiff, Nat.reduceEqDiff, ↓wo_buildSlice, evParts, ↓reduceIte, planIds, hasExt, cntFs, idxFs, clnFs, ovlFs, List.contains_cons, List.contains_nil, List.any_cons, List.any_nil, Nat.reduceBEq, setC, List.length_set, eq_self, Nat.zero_add, hal, h5, h7, h9, h10, h11, h12, h13, h14, e01, ex1, ey1, su1, su2, c3, cc, q1, q2, q3, dEq]
    · have q3 : ¬ (s.sell [x, y] cl w).1 = 0 := fun h => q1 (law1.1 h).1
      simp (maxSteps := 1000000) (disch := omega) only [push_cast, ↓wc_seq, ↓wc_condL, ↓wc_region, ↓wr_cons, ↓wr_consgL, ↓wr_nil, ↓wo_pickL, ↓wo_callf, ↓wc_skip, wo_some, opQ_eq, seqQ_normal, pickC_false, pickO_false, gstep_ft, int_beq, Nat.reduceAdd, Nat.reduceMul, Nat.reducePow, Nat.reduceLT, Nat.reduceLeDiff, Nat.reduceEqDiff, ↓wo_buildSlice, evParts, ↓reduceIte, planIds, hasExt, cntFs, idxFs, clnFs, ovlFs, List.contains_cons, List.contains_nil, List.any_cons, List.any_nil, Nat.reduceBEq, setC, List.length_set, eq_self, Nat.zero_add, hal, h5, h7, h9, h10, h11, h12, h13, e01, ex1, ey1, su1, su2, c3, cc, q1, q3, dEq]
  clear hal h5 h7 h9 h10 h11 h12 h13 h14 a
  rintro a Y ⟨rfl, hal, h7, h9, h10, h12, h15, h16, h17⟩
  by_cases q3 : (s.sell [x, y] cl w).1 = 0
  case neg =>
    rw [sell_err q3] at s7
    obtain ⟨-, m7, ps7, q7⟩ := id s7
    have su3 := sum_c (n := n) (by omega) q7 ok9 hxo
    have su4 := sum_c (n := n) (by omega) q7 ok9 hyo
    simp only [Lid.enc] at su3 su4
    simp (maxSteps := 1000000) (disch := omega) only [push_cast, ↓wc_seq, ↓wc_condL, ↓wc_region, ↓wr_cons, ↓wr_consgL, ↓wr_nil, ↓wo_pickL, ↓wo_callf, ↓wc_ret, wo_some, opQ_eq, seqQ_normal, seqQ_ret, pickC_true, pickO_true, gstep_tt, int_bne, int_beq, Nat.reduceAdd, Nat.reduceMul, Nat.reduceLT, Nat.reduceLeDiff, Nat.reduceEqDiff, ↓reduceIte, planIds, hasExt, cntFs, idxFs, clnFs, ovlFs, List.contains_cons, List.contains_nil, List.any_cons, List.any_nil, Nat.reduceBEq, setC, List.length_set, eq_self, Nat.zero_add, not_false_eq_true, hal, h7, h9, h10, h15, h16, h17, gx1, gy1, su3, su4, q3, cw]
    exact hend _ _ (by simp (maxSteps := 1000000) (disch := omega) only [push_cast, Nat.reduceLT, ↓reduceIte, setC, List.length_set, eq_self, hal])
  refine wc_scut (fun a Y' => Y' = Y ∧ a.length = 124 ∧ a[7]? = some (.loc p 0 0) ∧ a[9]? = some (.loc X 0 0) ∧ a[10]? = some (.loc (X + 1) 0 0) ∧ a[12]? = some (.loc K 0 0)) ?_ ?_
  · simp (maxSteps := 1000000) (disch := omega) only [push_cast, ↓wc_seq, ↓wc_condL, ↓wc_region, ↓wr_cons, ↓wr_nil, ↓wc_skip, wo_some, opQ_eq, seqQ_normal, pickC_false, int_bne, Nat.reduceAdd, Nat.reduceMul, Nat.reduceLT, Nat.reduceEqDiff, ↓reduceIte, planIds, List.contains_cons, List.contains_nil, Nat.reduceBEq, setC, List.length_set, eq_self, Nat.zero_add, not_true_eq_false, hal, h7, h9, h10, h12, h17, q3]
  clear hal h7 h9 h10 h12 h15 h16 h17 a
  rintro a Y' ⟨rfl, hal, h7, h9, h10, h12⟩
  rw [law2 q3] at t7
  have ok7 : StkOk 9999 (s.sell [x, y] cl w).2 := (sell_keeps hok [x, y] cl w hws (by omega)).mono (by omega)
  generalize (s.sell [x, y] cl w).2 = s2 at *
  obtain ⟨-, m7, ps7, q7⟩ := id s7
  obtain ⟨-, m8, ps8, q8⟩ := id t7
  obtain ⟨d1, Y1, k1, hg1, hx1, -⟩ := Counts_c (n := n) (by omega) q7 ok7 hxo
  obtain ⟨d2, Y2, k2, hg2, hx2, -⟩ := Counts_c (n := n) (by omega) (q8.keep (KeepO.ext hx1)) ok7 hxo
  have k3 := sameCounts_c (n := n) (by omega) (counts_len ok7 x) (hg1.ls.ext hx2) hg2.ls
  have hx12 : ExtS Y' Y2 := hx1.trans hx2
  obtain ⟨d3, Y3, k4, hg3, hx3, -⟩ := Counts_c (n := n) (by omega) (q7.keep (KeepO.ext hx12)) ok7 hyo
  obtain ⟨d4, Y4, k5, hg4, hx4, -⟩ := Counts_c (n := n) (by omega) (q8.keep (KeepO.ext (hx12.trans hx3))) ok7 hyo
  have k6 := sameCounts_c (n := n) (by omega) (counts_len ok7 y) (hg3.ls.ext hx4) hg4.ls
  have gy2 := hx12 _ _ gy.1
  simp only [Lid.enc] at k1 k2 k4 k5 gy2
  rw [wc_seq, wc_plan (p := steps [0, 1, 3, 4, 2, 5, 6, 7, 8, 9, 11, 12, 10, 13, 14, 15, 16, 17, 18, 19] .done) rfl, wp_pick rfl]
  simp only [opsOf, List.filterMap_cons, List.filterMap_nil, List.getElem?_toArray, List.getElem?_cons_zero, List.getElem?_cons_succ]
  simp (maxSteps := 1000000) (disch := omega) only [push_cast, ↓wr_cons, ↓wr_consgL, ↓wr_nil, ↓wo_pickL, ↓wo_callf, ↓wc_ret, wo_some, opQ_eq, seqQ_normal, pickO_true, gstep_tt, Nat.reduceAdd, Nat.reduceLT, Nat.reduceLeDiff, Nat.reduceEqDiff, ↓reduceIte, hasExt, cntFs, idxFs, clnFs, ovlFs, List.contains_nil, List.any_cons, List.any_nil, Nat.reduceBEq, setC, List.length_set, eq_self, Nat.zero_add, hal, h7, h9, h10, h12, gx1, gy2, k1, k2, k3, k4, k5, k6, cw, wp_done]
  exact hend _ _ (by simp (maxSteps := 1000000) (disch := omega) only [push_cast, Nat.reduceLT, ↓reduceIte, setC, List.length_set, eq_self, hal])
end Go.Proofs.YtajhgnefcddenaaGreatDoor.Dm
namespace Go.Proofs.YtajhgnefcddenaaGreatDoor
open Go Go.ChangeShapes Go.WideShapes Go.ChangeAt Go.RowKit Dm
theorem StockTogether_walk {W : World} {xs : List D} {vs : Array Value} (ht : TVs Tryz.prog [22, 57, 63] xs) (hv : VRs W ⟨Tryz.prog, fun _ => none, fun g => g < W.heap.size⟩ xs vs.toList) (hp : pureL xs = true) :
    Calls Tryz.prog 6 vs W fun e W' => e = .returned (.bool true) ∧ Below W.heap.size W W' := by
  obtain ⟨d1, _, rfl, h1, ht⟩ := ht.inv
  obtain ⟨d2, _, rfl, h2, ht⟩ := ht.inv
  obtain ⟨d3, _, rfl, h3, ht⟩ := ht.inv
  have := ht.inv0
  subst this
  obtain ⟨v1, v2, v3, hvs⟩ : ∃ v1 v2 v3, vs.toList = [v1, v2, v3] := by
    have := hv.1
    match vs.toList, this with
    | [v1, v2, v3], _ => exact ⟨v1, v2, v3, rfl⟩
  rw [hvs] at hv
  have r1 := hv.head
  have r2 := hv.tail.head
  have r3 := hv.tail.tail.head
  obtain ⟨n, hn⟩ : ∃ n : Nat, 9223372036854775807 + 5000 ≤ n := ⟨_, Nat.le_refl _⟩
  obtain ⟨l, lx, z1, w1⟩ := Cfgs_front h1 hn
  obtain ⟨acts, ax, z2, w2⟩ := Acts_front h2
  obtain ⟨c, rfl, hc⟩ : ∃ c, d3 = .agg c ∧ TC Tryz.prog 63 c := by
    rcases h3 with ⟨-, c, e, hc⟩ | ⟨hg, -⟩
    · exact ⟨c, e, hc⟩
    · have : aggT Tryz.prog 63 = some true := by kernel_rfl
      rw [this] at hg
      cases hg
  obtain ⟨a, ha, hok⟩ := Cal_of hc
  refine true_of_mw (args := [.sl 2 (l.map Cfg.enc) lx, .sl 6 (acts.map Cal.enc) ax, .agg a.enc]) Tryz.func6 rfl (StockTogether_mw (n := n) (l := l) (acts := acts) (lx := lx) (ax := ax) (z := a) (by omega) hok z1 z2 rfl rfl rfl rfl rfl (envOk.lin _ _ _ Tryz.func6 rfl (by decide))) (I := fun g => g < W.heap.size) (fun g h => h) ?_
  rw [hvs]
  refine VRs.cons (w1 _ _ _ r1) (VRs.cons (w2 _ _ _ r2) (VRs.cons ?_ VRs.nil))
  obtain ⟨us, rfl, hus⟩ := r3.of_agg
  have := VR.agg_of (W := W) (C := ⟨Tryz.prog, fun _ => none, fun g => g < W.heap.size⟩) (cs := a.enc) (vs := us.toList) ⟨ha.1.trans hus.1, fun j d u hd hu => ?_⟩
  · change VR W ⟨Tryz.prog, fun _ => none, fun g => g < W.heap.size⟩ (.agg a.enc) (.agg us)
    simpa using this
  · obtain ⟨c', hc'⟩ : ∃ c', c[j]? = some c' := ⟨c[j]'(by have := (List.getElem?_eq_some_iff.1 hu).1; rw [hus.1]; exact this), by simp⟩
    exact (ha.2 j c' d hc' hd).2 _ _ _ (hus.2 j c' u hc' hu)
end Go.Proofs.YtajhgnefcddenaaGreatDoor
