/-
  The machine at the program's check of configurations, whatever violations there are: all configurations.
-/
import Derived.Test.YtlamgjbngblefaaGreatDoorSnC
namespace Go.Proofs.YtlamgjbngblefaaGreatDoor.Dm
open Go Gw
set_option linter.unusedSimpArgs false
set_option linter.unusedSimpArgs false

set_option maxHeartbeats 16000000 in
set_option maxRecDepth 100000 in
theorem CheckG_d {n : Nat} {l : List Cfg} {lx : Bool} (hn : 300 ≤ n) (hl : l.length ≤ 30) (hsm : ∀ c ∈ l, Sm c) (hz : ∀ c ∈ l, CfgZ n c) :
    WO (dcall E (n + 1) 70 [.sl 2 (l.map Cfg.enc) lx] []) fun d T => GL 2 encF T d (cfgL l l.length) := by
  have ks := keys_str
  refine wo_dcall Tryz.func70 rfl (by decide) rfl 85 rfl (fun a hal ha => ?_)
  have h0 : a[0]? = some (.sl 2 (l.map Cfg.enc) lx) := ha 0 (by simp)
  clear ha
  simp (maxSteps := 1000000) (disch := omega) only [push_cast, ↓wc_seq, ↓wc_block, ↓wc_region, ↓wr_cons, ↓wr_nil, ↓wc_wl, wo_some, opQ_eq, seqQ_normal, Nat.reduceAdd, Nat.reduceMul, Nat.reduceLT, ↓reduceIte, planIds, List.contains_cons, List.contains_nil, Nat.reduceBEq, setC, List.length_set, reduceCtorEq, eq_self, Nat.zero_add, planIds, List.contains_cons, List.contains_nil, Nat.reduceBEq, Nat.reduceMul, Nat.reduceAdd, ↓reduceIte, hal, h0]
  refine wl_loop (fun i a T => a.length = 85 ∧ a[3]? = some (.loc 0 0 0) ∧ a[4]? = some (.map 1) ∧ a[13]? = some (.sl 2 (l.map Cfg.enc) lx) ∧ a[14]? = some (.int .i64 l.length) ∧ a[15]? = some (.int .i64 i) ∧ ∃ p ps, CkAt 0 T p (cfgL l i) ∧ T[1]? = some (.map kS ps) ∧ SetIs ps ((l.take i).map (·.equip))) l.length ?_ (by omega) ?_
  · simp (maxSteps := 1000000) (disch := omega) only [push_cast, Nat.reduceLT, Nat.reduceEqDiff, ↓reduceIte, setC, List.length_set, eq_self, Option.some.injEq, ↓reduceIte, hal, Int.natCast_zero, List.length_map]
    exact ⟨_, _, ⟨_, rfl, GL.nil⟩, rfl, SetIs.nil⟩
  clear hal h0 a
  rintro i a T hi ⟨hal, h3, h4, h13, h14, h15, p, ps, t0, t1, hs⟩
  rcases Nat.lt_or_eq_of_le hi with hlt | rfl
  case inr =>
    obtain ⟨d, t0x, hg⟩ := t0.ex
    rcases hg with ⟨rfl, hg⟩ | ⟨kk, rfl, hg⟩
    · simp (maxSteps := 1000000) (disch := omega) only [push_cast, ↓wc_seq, ↓wc_condL, ↓wc_region, ↓wr_cons, ↓wr_nil, ↓wc_exit, ↓wc_ret, wo_some, opQ_eq, seqQ_normal, seqQ_exit, blockQ_exit, iterQ_exit, retQ_ret, pickC_false, Nat.reduceAdd, Nat.reduceMul, Nat.reduceLT, Nat.reduceEqDiff, ↓reduceIte, planIds, List.contains_cons, List.contains_nil, Nat.reduceBEq, setC, List.length_set, eq_self, Int.ofNat_lt, Nat.zero_add, Nat.add_zero, planIds, List.contains_cons, List.contains_nil, Nat.reduceBEq, Nat.reduceMul, Nat.reduceAdd, ↓reduceIte, hal, h3, h14, h15, Nat.lt_irrefl, t0x, Tryz.f70]
      exact .inl ⟨rfl, hg⟩
    · simp (maxSteps := 1000000) (disch := omega) only [push_cast, ↓wc_seq, ↓wc_condL, ↓wc_region, ↓wr_cons, ↓wr_nil, ↓wc_exit, ↓wc_ret, wo_some, opQ_eq, seqQ_normal, seqQ_exit, blockQ_exit, iterQ_exit, retQ_ret, pickC_false, Nat.reduceAdd, Nat.reduceMul, Nat.reduceLT, Nat.reduceEqDiff, ↓reduceIte, planIds, List.contains_cons, List.contains_nil, Nat.reduceBEq, setC, List.length_set, eq_self, Int.ofNat_lt, Nat.zero_add, Nat.add_zero, planIds, List.contains_cons, List.contains_nil, Nat.reduceBEq, Nat.reduceMul, Nat.reduceAdd, ↓reduceIte, hal, h3, h14, h15, Nat.lt_irrefl, t0x, Tryz.f70]
      exact .inr ⟨kk, rfl, hg⟩
  obtain ⟨x, hx⟩ : ∃ x, l[i]? = some x := ⟨l[i], by simp⟩
  have hxm := List.mem_of_getElem? hx
  have hxs := hsm x hxm
  have hxl := hxs.cabs
  have zx := hz x hxm
  have cd := dec2_c (n := n) (by omega) (i := i) (by omega)
  have hd := dec2_size i
  have hw7 : (ByteArray.mk #[99, 111, 110, 102, 105, 103, 32]).size = 7 := rfl
  have m1 := mxs (a := ByteArray.mk #[99, 111, 110, 102, 105, 103, 32]) (b := dec2 i) (by rw [hw7]; omega)
  have hat : ByteArray.mk #[99, 111, 110, 102, 105, 103, 32] ++ dec2 i = cnfS i := rfl
  have cc := code38 (n := n) (s := x.equip) (l := 3) (m := 3) (by have := zx.eq; omega) zx.eq.2
  have ko := keyOk_str zx.eq.2
  have hlk := hs.2 x.equip
  have hput := hs.put x.equip
  have hst : (l.take i).map (·.equip) ++ [x.equip] = (l.take (i + 1)).map (·.equip) := by
    rw [List.take_add_one, hx, List.map_append]; rfl
  rw [hst] at hput
  have hll := cfgL_len l hsm i
  have l0T := t0.lt
  have l1T := lt_of_get t1
  have n4 : T.length ≠ 0 := by omega
  have n5 : T.length ≠ 1 := by omega
  obtain ⟨dd, t0x, gU⟩ := (t0.push (Ob.row 2 [[.str x.equip, .sl 4 (x.cabs.map Cab.enc) x.cabsx]])).path (q := cnfS i)
  obtain ⟨U, hU⟩ : ∃ U, U = (T ++ [Ob.row 2 [[.str x.equip, .sl 4 (x.cabs.map Cab.enc) x.cabsx]]]).set 0 (.row 2 [[dd, .str (cnfS i)]]) := ⟨_, rfl⟩
  rw [← hU] at gU
  have hU1 : U[1]? = some (.map kS ps) := by rw [hU, List.getElem?_set_ne (by decide)]; exact get_old t1
  have hUx : U[T.length]? = some (.row 2 [[.str x.equip, .sl 4 (x.cabs.map Cab.enc) x.cabsx]]) := by rw [hU, List.getElem?_set_ne (Ne.symm n4)]; exact get_end
  obtain ⟨T1, a1, g1, k1⟩ := gU.add (n := n) (by omega) (by omega) (!codeS x.equip 3 3) 5
  have hT11 := k1 _ _ (by decide) not_fault_map hU1
  have hT1x := k1 _ _ n4 not_fault2 hUx
  have i1 := ifF_len (!codeS x.equip 3 3) 5 (cnfS i)
  obtain ⟨T2, a2, g2, k2⟩ := g1.add (n := n) (by omega) (by rw [List.length_append]; omega) (inB x.equip ((l.take i).map (·.equip))) 6
  have hT21 := k2 _ _ (by decide) not_fault_map hT11
  have hT2x := k2 _ _ n4 not_fault2 hT1x
  have i2 := ifF_len (inB x.equip ((l.take i).map (·.equip))) 6 (cnfS i)
  obtain ⟨b4, hb4⟩ : ∃ b, b = (decide (x.cabs.length < 1) || decide (4 < x.cabs.length)) := ⟨_, rfl⟩
  obtain ⟨T3, a3, g3, k3⟩ := g2.add (n := n) (by omega) (by rw [List.length_append, List.length_append]; omega) b4 4
  have hT31 := k3 _ _ (by decide) not_fault_map hT21
  have hT3x := k3 _ _ n4 not_fault2 hT2x
  have i3 := ifF_len b4 4 (cnfS i)
  have gV := g3.set (o' := .map kS (putM ps (.str x.equip) (.bool true))) hT31 not_fault_map (by decide)
  obtain ⟨V, hV⟩ : ∃ V, V = T3.set 1 (.map kS (putM ps (.str x.equip) (.bool true))) := ⟨_, rfl⟩
  rw [← hV] at gV
  have hV1 : V[1]? = some (.map kS (putM ps (.str x.equip) (.bool true))) := by rw [hV]; exact List.getElem?_set_self (lt_of_get hT31)
  have hVx : V[T.length]? = some (.row 2 [[.str x.equip, .sl 4 (x.cabs.map Cab.enc) x.cabsx]]) := by rw [hV, List.getElem?_set_ne (Ne.symm n5)]; exact hT3x
  have hlen : (cfgL l i ++ ifF (!codeS x.equip 3 3) 5 (cnfS i) ++ ifF (inB x.equip ((l.take i).map (·.equip))) 6 (cnfS i) ++ ifF b4 4 (cnfS i)).length ≤ 82000 := by
    rw [List.length_append, List.length_append, List.length_append]; omega
  have hend : cfgL l i ++ ifF (!codeS x.equip 3 3) 5 (cnfS i) ++ ifF (inB x.equip ((l.take i).map (·.equip))) 6 (cnfS i) ++ ifF b4 4 (cnfS i) ++ cabL (cnfS i) x.cabs x.cabs.length = cfgL l (i + 1) := by
    rw [hb4, cfgL, hx]
    simp only [cfgF, List.append_assoc]
  refine wc_scut (fun a T' => T = T' ∧ a.length = 85 ∧ a[3]? = some (.loc 0 0 0) ∧ a[4]? = some (.map 1) ∧ a[13]? = some (.sl 2 (l.map Cfg.enc) lx) ∧ a[14]? = some (.int .i64 l.length) ∧ a[15]? = some (.int .i64 i) ∧ a[16]? = some (.bool true)) ?_ ?_
  · simp (maxSteps := 1000000) (disch := omega) only [push_cast, ↓wc_region, ↓wr_cons, ↓wr_nil, wo_some, opQ_eq, Nat.reduceAdd, Nat.reduceMul, Nat.reduceLT, Nat.reduceEqDiff, ↓reduceIte, planIds, List.contains_cons, List.contains_nil, Nat.reduceBEq, setC, List.length_set, eq_self, Int.ofNat_lt, Nat.zero_add, planIds, List.contains_cons, List.contains_nil, Nat.reduceBEq, Nat.reduceMul, Nat.reduceAdd, ↓reduceIte, hal, h3, h4, h13, h14, h15, hlt]
  clear hal h3 h4 h13 h14 h15 a
  rintro a T' ⟨rfl, hal, h3, h4, h13, h14, h15, h16⟩
  refine wc_scut (fun a T' => T = T' ∧ a.length = 85 ∧ a[3]? = some (.loc 0 0 0) ∧ a[4]? = some (.map 1) ∧ a[13]? = some (.sl 2 (l.map Cfg.enc) lx) ∧ a[14]? = some (.int .i64 l.length) ∧ a[15]? = some (.int .i64 i)) ?_ ?_
  · simp (maxSteps := 1000000) (disch := omega) only [push_cast, ↓wc_condL, ↓wc_skip, pickC_true, eq_self, hal, h3, h4, h13, h14, h15, h16]
  clear hal h3 h4 h13 h14 h15 h16 a
  rintro a T' ⟨rfl, hal, h3, h4, h13, h14, h15⟩
  refine wc_scut (fun a T' => (∃ p ps, CkAt 0 T' p (cfgL l (i + 1)) ∧ T'[1]? = some (.map kS ps) ∧ SetIs ps ((l.take (i + 1)).map (·.equip))) ∧ a.length = 85 ∧ a[3]? = some (.loc 0 0 0) ∧ a[4]? = some (.map 1) ∧ a[13]? = some (.sl 2 (l.map Cfg.enc) lx) ∧ a[14]? = some (.int .i64 l.length) ∧ a[15]? = some (.int .i64 i)) ?_ ?_
  case refine_2 =>
    clear hal h3 h4 h13 h14 h15 a
    rintro a T' ⟨hq, hal, h3, h4, h13, h14, h15⟩
    simp (maxSteps := 1000000) (disch := omega) only [push_cast, ↓wc_region, ↓wr_cons, ↓wr_nil, wo_some, opQ_eq, iterQ_normal, Nat.reduceAdd, Nat.reduceMul, Nat.reduceLT, Nat.reduceEqDiff, ↓reduceIte, planIds, List.contains_cons, List.contains_nil, Nat.reduceBEq, setC, List.length_set, eq_self, Nat.zero_add, planIds, List.contains_cons, List.contains_nil, Nat.reduceBEq, Nat.reduceMul, Nat.reduceAdd, ↓reduceIte, hal, h3, h4, h13, h14, h15, wrap_ok, Int.natCast_add, Int.natCast_one]
    exact ⟨hlt, hq⟩
  rw [wc_block]
  refine wc_scut (fun a T' => T ++ [Ob.row 2 [[.str x.equip, .sl 4 (x.cabs.map Cab.enc) x.cabsx]]] = T' ∧ a.length = 85 ∧ a[3]? = some (.loc 0 0 0) ∧ a[4]? = some (.map 1) ∧ a[5]? = some (.int .i64 i) ∧ a[6]? = some (.loc T.length 0 0) ∧ a[13]? = some (.sl 2 (l.map Cfg.enc) lx) ∧ a[14]? = some (.int .i64 l.length) ∧ a[15]? = some (.int .i64 i)) ?_ ?_
  · simp (maxSteps := 1000000) (disch := omega) only [push_cast, ↓wc_region, ↓wr_cons, ↓wr_nil, wo_some, opQ_eq, Nat.reduceAdd, Nat.reduceMul, Nat.reduceLT, Nat.reduceLeDiff, Nat.reduceEqDiff, ↓reduceIte, planIds, List.contains_cons, List.contains_nil, Nat.reduceBEq, setC, List.length_set, eq_self, Int.natCast_nonneg, Int.toNat_natCast, Nat.zero_add, planIds, List.contains_cons, List.contains_nil, Nat.reduceBEq, Nat.reduceMul, Nat.reduceAdd, ↓reduceIte, hal, h3, h4, h13, h14, h15, hx, Cfg.enc, set_end, get_end, List.getElem?_map]
  clear hal h3 h4 h13 h14 h15 a
  rintro a T' ⟨rfl, hal, h3, h4, h5, h6, h13, h14, h15⟩
  refine wc_scut (fun a T' => T ++ [Ob.row 2 [[.str x.equip, .sl 4 (x.cabs.map Cab.enc) x.cabsx]]] = T' ∧ a.length = 85 ∧ a[3]? = some (.loc 0 0 0) ∧ a[4]? = some (.map 1) ∧ a[5]? = some (.int .i64 i) ∧ a[6]? = some (.loc T.length 0 0) ∧ a[7]? = some (.str (cnfS i)) ∧ a[13]? = some (.sl 2 (l.map Cfg.enc) lx) ∧ a[14]? = some (.int .i64 l.length) ∧ a[15]? = some (.int .i64 i)) ?_ ?_
  · simp (maxSteps := 1000000) (disch := omega) only [push_cast, ↓wc_region, ↓wr_cons, ↓wr_nil, ↓wo_callf, wo_some, opQ_eq, Nat.reduceAdd, Nat.reduceMul, Nat.reduceLT, Nat.reduceEqDiff, ↓reduceIte, planIds, hasExt, cntFs, idxFs, clnFs, ovlFs, List.contains_cons, List.contains_nil, List.any_nil, Nat.reduceBEq, setC, List.length_set, eq_self, Nat.zero_add, gt_iff_lt, planIds, hasExt, cntFs, idxFs, clnFs, ovlFs, List.contains_cons, List.contains_nil, List.any_nil, Nat.reduceBEq, Nat.reduceMul, Nat.reduceAdd, ↓reduceIte, hal, h3, h4, h5, h6, h13, h14, h15, cd, m1, hat]
  clear hal h3 h4 h5 h6 h13 h14 h15 a
  rintro a T' ⟨rfl, hal, h3, h4, h5, h6, h7, h13, h14, h15⟩
  refine wc_scut (fun a T' => U = T' ∧ a.length = 85 ∧ a[3]? = some (.loc 0 0 0) ∧ a[4]? = some (.map 1) ∧ a[5]? = some (.int .i64 i) ∧ a[6]? = some (.loc T.length 0 0) ∧ a[7]? = some (.str (cnfS i)) ∧ a[13]? = some (.sl 2 (l.map Cfg.enc) lx) ∧ a[14]? = some (.int .i64 l.length) ∧ a[15]? = some (.int .i64 i)) ?_ ?_
  · simp (maxSteps := 1000000) (disch := omega) only [push_cast, ↓wc_region, ↓wr_cons, ↓wr_nil, wo_some, opQ_eq, Nat.reduceAdd, Nat.reduceMul, Nat.reduceLT, Nat.reduceLeDiff, Nat.reduceEqDiff, ↓reduceIte, planIds, List.contains_cons, List.contains_nil, Nat.reduceBEq, setC, List.length_set, eq_self, Nat.zero_add, planIds, List.contains_cons, List.contains_nil, Nat.reduceBEq, Nat.reduceMul, Nat.reduceAdd, ↓reduceIte, hal, h3, h4, h5, h6, h7, h13, h14, h15, t0x, ← hU]
  clear hal h3 h4 h5 h6 h7 h13 h14 h15 a
  rintro a T' ⟨rfl, hal, h3, h4, h5, h6, h7, h13, h14, h15⟩
  refine wc_scut (fun a T' => T1 = T' ∧ a.length = 85 ∧ a[3]? = some (.loc 0 0 0) ∧ a[4]? = some (.map 1) ∧ a[5]? = some (.int .i64 i) ∧ a[6]? = some (.loc T.length 0 0) ∧ a[7]? = some (.str (cnfS i)) ∧ a[13]? = some (.sl 2 (l.map Cfg.enc) lx) ∧ a[14]? = some (.int .i64 l.length) ∧ a[15]? = some (.int .i64 i)) ?_ ?_
  · simp (maxSteps := 1000000) (disch := omega) only [push_cast, ↓wc_region, ↓wr_cons, ↓wr_nil, ↓wo_callf, wo_some, opQ_eq, Nat.reduceAdd, Nat.reduceMul, Nat.reduceLT, Nat.reduceEqDiff, ↓reduceIte, planIds, hasExt, cntFs, idxFs, clnFs, ovlFs, List.contains_cons, List.contains_nil, List.any_nil, Nat.reduceBEq, setC, List.length_set, eq_self, Nat.zero_add, Nat.add_zero, planIds, hasExt, cntFs, idxFs, clnFs, ovlFs, List.contains_cons, List.contains_nil, List.any_nil, Nat.reduceBEq, Nat.reduceMul, Nat.reduceAdd, ↓reduceIte, hal, h3, h4, h5, h6, h7, h13, h14, h15, hUx, cc, a1]
  clear hal h3 h4 h5 h6 h7 h13 h14 h15 a
  rintro a T' ⟨rfl, hal, h3, h4, h5, h6, h7, h13, h14, h15⟩
  refine wc_scut (fun a T' => T2 = T' ∧ a.length = 85 ∧ a[3]? = some (.loc 0 0 0) ∧ a[4]? = some (.map 1) ∧ a[5]? = some (.int .i64 i) ∧ a[6]? = some (.loc T.length 0 0) ∧ a[7]? = some (.str (cnfS i)) ∧ a[13]? = some (.sl 2 (l.map Cfg.enc) lx) ∧ a[14]? = some (.int .i64 l.length) ∧ a[15]? = some (.int .i64 i)) ?_ ?_
  · cases hin : inB x.equip ((l.take i).map (·.equip))
    · rw [hin, if_neg (by simp)] at hlk
      rw [hin] at a2
      simp (maxSteps := 1000000) (disch := omega) only [push_cast, ↓wc_region, ↓wr_cons, ↓wr_nil, ↓wo_callf, wo_some, opQ_eq, Nat.reduceAdd, Nat.reduceMul, Nat.reduceLT, Nat.reduceEqDiff, ↓reduceIte, planIds, hasExt, cntFs, idxFs, clnFs, ovlFs, List.contains_cons, List.contains_nil, List.any_nil, Nat.reduceBEq, setC, List.length_set, eq_self, Nat.zero_add, Nat.add_zero, planIds, hasExt, cntFs, idxFs, clnFs, ovlFs, List.contains_cons, List.contains_nil, List.any_nil, Nat.reduceBEq, Nat.reduceMul, Nat.reduceAdd, ↓reduceIte, hal, h3, h4, h5, h6, h7, h13, h14, h15, hT1x, hT11, ko, ks, hlk, a2]
    · rw [hin, if_pos rfl] at hlk
      rw [hin] at a2
      simp (maxSteps := 1000000) (disch := omega) only [push_cast, ↓wc_region, ↓wr_cons, ↓wr_nil, ↓wo_callf, wo_some, opQ_eq, Nat.reduceAdd, Nat.reduceMul, Nat.reduceLT, Nat.reduceEqDiff, ↓reduceIte, planIds, hasExt, cntFs, idxFs, clnFs, ovlFs, List.contains_cons, List.contains_nil, List.any_nil, Nat.reduceBEq, setC, List.length_set, eq_self, Nat.zero_add, Nat.add_zero, planIds, hasExt, cntFs, idxFs, clnFs, ovlFs, List.contains_cons, List.contains_nil, List.any_nil, Nat.reduceBEq, Nat.reduceMul, Nat.reduceAdd, ↓reduceIte, hal, h3, h4, h5, h6, h7, h13, h14, h15, hT1x, hT11, ko, ks, hlk, a2]
  clear hal h3 h4 h5 h6 h7 h13 h14 h15 a
  rintro a T' ⟨rfl, hal, h3, h4, h5, h6, h7, h13, h14, h15⟩
  refine wc_scut (fun a T' => T3 = T' ∧ a.length = 85 ∧ a[3]? = some (.loc 0 0 0) ∧ a[4]? = some (.map 1) ∧ a[5]? = some (.int .i64 i) ∧ a[6]? = some (.loc T.length 0 0) ∧ a[7]? = some (.str (cnfS i)) ∧ a[13]? = some (.sl 2 (l.map Cfg.enc) lx) ∧ a[14]? = some (.int .i64 l.length) ∧ a[15]? = some (.int .i64 i)) ?_ ?_
  · by_cases q1 : (x.cabs.length : Int) < 1
    · have : x.cabs.length < 1 := by omega
      rw [decide_eq_true this, Bool.true_or] at hb4
      rw [hb4] at a3
      simp (maxSteps := 1000000) (disch := omega) only [push_cast, ↓wc_region, ↓wr_cons, ↓wr_consgL, ↓wr_nil, ↓wo_pickL, ↓wo_callf, wo_some, opQ_eq, pickO_true, gstep_tf, Nat.reduceAdd, Nat.reduceMul, Nat.reduceLT, Nat.reduceEqDiff, ↓reduceIte, planIds, hasExt, cntFs, idxFs, clnFs, ovlFs, List.contains_cons, List.contains_nil, List.any_nil, Nat.reduceBEq, setC, List.length_set, eq_self, Nat.zero_add, planIds, hasExt, cntFs, idxFs, clnFs, ovlFs, List.contains_cons, List.contains_nil, List.any_nil, Nat.reduceBEq, Nat.reduceMul, Nat.reduceAdd, ↓reduceIte, hal, h3, h4, h5, h6, h7, h13, h14, h15, a3, hT2x, q1, List.length_map]
    have q1' : ¬ x.cabs.length < 1 := by omega
    by_cases q2 : (4 : Int) < x.cabs.length
    · have : 4 < x.cabs.length := by omega
      rw [decide_eq_true this, Bool.or_true] at hb4
      rw [hb4] at a3
      simp (maxSteps := 1000000) (disch := omega) only [push_cast, ↓wc_region, ↓wr_cons, ↓wr_consgL, ↓wr_nil, ↓wo_pickL, ↓wo_callf, wo_some, opQ_eq, pickO_false, gstep_ff, Nat.reduceAdd, Nat.reduceMul, Nat.reduceLT, Nat.reduceEqDiff, ↓reduceIte, planIds, hasExt, cntFs, idxFs, clnFs, ovlFs, List.contains_cons, List.contains_nil, List.any_nil, Nat.reduceBEq, setC, List.length_set, eq_self, Nat.zero_add, gt_iff_lt, planIds, hasExt, cntFs, idxFs, clnFs, ovlFs, List.contains_cons, List.contains_nil, List.any_nil, Nat.reduceBEq, Nat.reduceMul, Nat.reduceAdd, ↓reduceIte, hal, h3, h4, h5, h6, h7, h13, h14, h15, a3, hT2x, q1, q2, List.length_map, gt_iff_lt]
    · have : ¬ 4 < x.cabs.length := by omega
      rw [decide_eq_false this, decide_eq_false q1', Bool.or_false] at hb4
      rw [hb4] at a3
      simp (maxSteps := 1000000) (disch := omega) only [push_cast, ↓wc_region, ↓wr_cons, ↓wr_consgL, ↓wr_nil, ↓wo_pickL, ↓wo_callf, wo_some, opQ_eq, pickO_false, gstep_ff, Nat.reduceAdd, Nat.reduceMul, Nat.reduceLT, Nat.reduceEqDiff, ↓reduceIte, planIds, hasExt, cntFs, idxFs, clnFs, ovlFs, List.contains_cons, List.contains_nil, List.any_nil, Nat.reduceBEq, setC, List.length_set, eq_self, Nat.zero_add, gt_iff_lt, planIds, hasExt, cntFs, idxFs, clnFs, ovlFs, List.contains_cons, List.contains_nil, List.any_nil, Nat.reduceBEq, Nat.reduceMul, Nat.reduceAdd, ↓reduceIte, hal, h3, h4, h5, h6, h7, h13, h14, h15, a3, hT2x, q1, q2, List.length_map, gt_iff_lt]
  clear hal h3 h4 h5 h6 h7 h13 h14 h15 a
  rintro a T' ⟨rfl, hal, h3, h4, h5, h6, h7, h13, h14, h15⟩
  refine wc_scut (fun a T' => V = T' ∧ a.length = 85 ∧ a[3]? = some (.loc 0 0 0) ∧ a[4]? = some (.map 1) ∧ a[5]? = some (.int .i64 i) ∧ a[6]? = some (.loc T.length 0 0) ∧ a[7]? = some (.str (cnfS i)) ∧ a[13]? = some (.sl 2 (l.map Cfg.enc) lx) ∧ a[14]? = some (.int .i64 l.length) ∧ a[15]? = some (.int .i64 i)) ?_ ?_
  · simp (maxSteps := 1000000) (disch := omega) only [push_cast, ↓wc_region, ↓wr_cons, ↓wr_nil, wo_some, opQ_eq, Nat.reduceAdd, Nat.reduceMul, Nat.reduceLT, Nat.reduceEqDiff, ↓reduceIte, planIds, List.contains_cons, List.contains_nil, Nat.reduceBEq, setC, List.length_set, eq_self, Nat.zero_add, Nat.add_zero, planIds, List.contains_cons, List.contains_nil, Nat.reduceBEq, Nat.reduceMul, Nat.reduceAdd, ↓reduceIte, hal, h3, h4, h5, h6, h7, h13, h14, h15, hT3x, hT31, ko, ks, ← hV]
  clear hal h3 h4 h5 h6 h7 h13 h14 h15 a
  rintro a T' ⟨rfl, hal, h3, h4, h5, h6, h7, h13, h14, h15⟩
  refine wc_scut (fun a T' => V ++ [Ob.map kS []] ++ [Ob.map kS []] = T' ∧ a.length = 85 ∧ a[3]? = some (.loc 0 0 0) ∧ a[4]? = some (.map 1) ∧ a[6]? = some (.loc T.length 0 0) ∧ a[7]? = some (.str (cnfS i)) ∧ a[8]? = some (.map V.length) ∧ a[9]? = some (.map (V ++ [Ob.map kS []]).length) ∧ a[13]? = some (.sl 2 (l.map Cfg.enc) lx) ∧ a[14]? = some (.int .i64 l.length) ∧ a[15]? = some (.int .i64 i)) ?_ ?_
  · simp (maxSteps := 1000000) (disch := omega) only [push_cast, ↓wc_region, ↓wr_cons, ↓wr_nil, wo_some, opQ_eq, Nat.reduceAdd, Nat.reduceMul, Nat.reduceLT, Nat.reduceEqDiff, ↓reduceIte, planIds, List.contains_cons, List.contains_nil, Nat.reduceBEq, setC, List.length_set, eq_self, Nat.zero_add, planIds, List.contains_cons, List.contains_nil, Nat.reduceBEq, Nat.reduceMul, Nat.reduceAdd, ↓reduceIte, hal, h3, h4, h6, h7, h13, h14, h15]
  clear hal h3 h4 h5 h6 h7 h13 h14 h15 a
  rintro a T' ⟨rfl, hal, h3, h4, h6, h7, h8, h9, h13, h14, h15⟩
  have hVx2 : (V ++ [Ob.map kS []] ++ [Ob.map kS []])[T.length]? = some (.row 2 [[.str x.equip, .sl 4 (x.cabs.map Cab.enc) x.cabsx]]) := get_old (get_old hVx)
  have hgV2 := (gV.push (Ob.map kS [])).push (Ob.map kS [])
  generalize cfgL l i ++ ifF (!codeS x.equip 3 3) 5 (cnfS i) ++ ifF (inB x.equip ((l.take i).map (·.equip))) 6 (cnfS i) ++ ifF b4 4 (cnfS i) = f3 at *
  rw [← hend]
  clear a1 a2 a3 g1 g2 g3 k1 k2 k3 gU hU gV hT11 hT1x hT21 hT2x hT31 hT3x hUx hU1 hV i1 i2 i3 hb4 hend
  simp (maxSteps := 1000000) (disch := omega) only [push_cast, ↓wc_seq, ↓wc_block, ↓wc_region, ↓wr_cons, ↓wr_nil, ↓wc_wl, wo_some, opQ_eq, seqQ_normal, Nat.reduceAdd, Nat.reduceMul, Nat.reduceLT, ↓reduceIte, planIds, List.contains_cons, List.contains_nil, Nat.reduceBEq, setC, List.length_set, eq_self, Nat.zero_add, planIds, List.contains_cons, List.contains_nil, Nat.reduceBEq, Nat.reduceMul, Nat.reduceAdd, ↓reduceIte, hal, h6, hVx2, List.length_map]
  refine wl_loop (fun k a W => a.length = 85 ∧ a[3]? = some (.loc 0 0 0) ∧ a[4]? = some (.map 1) ∧ a[7]? = some (.str (cnfS i)) ∧ a[8]? = some (.map V.length) ∧ a[9]? = some (.map (V ++ [Ob.map kS []]).length) ∧ a[13]? = some (.sl 2 (l.map Cfg.enc) lx) ∧ a[14]? = some (.int .i64 l.length) ∧ a[15]? = some (.int .i64 i) ∧ a[52]? = some (.sl 4 (x.cabs.map Cab.enc) x.cabsx) ∧ a[53]? = some (.int .i64 x.cabs.length) ∧ a[54]? = some (.int .i64 k) ∧ ∃ p' ns cs, CkAt 0 W p' (f3 ++ cabL (cnfS i) x.cabs k) ∧ W[1]? = some (.map kS (putM ps (.str x.equip) (.bool true))) ∧ W[V.length]? = some (.map kS ns) ∧ SetIs ns ((x.cabs.take k).map (·.name)) ∧ W[(V ++ [Ob.map kS []]).length]? = some (.map kS cs) ∧ SetIs cs (codes (x.cabs.take k))) x.cabs.length ?_ (by omega) ?_
  · simp (maxSteps := 1000000) (disch := omega) only [push_cast, Nat.reduceLT, Nat.reduceEqDiff, ↓reduceIte, setC, List.length_set, eq_self, ↓reduceIte, hal, h3, h4, h7, h8, h9, h13, h14, h15, Int.natCast_zero, List.append_nil, cabL]
    exact ⟨_, _, _, hgV2, get_old (get_old hV1), get_old get_end, SetIs.nil, get_end, SetIs.nil⟩
  clear hal h3 h4 h6 h7 h8 h9 h13 h14 h15 a
  have hN9 : (V ++ [Ob.map kS []]).length = V.length + 1 := by simp
  have hV1l := lt_of_get hV1
  clear hVx2 hgV2 hVx hV1
  generalize (V ++ [Ob.map kS []]).length = N9 at *
  generalize V.length = N8 at *
  rintro k a W hk ⟨hal, h3, h4, h7, h8, h9, h13, h14, h15, h52, h53, h54, p', ns, cs, w0, w1, w8, hns, w9, hcs⟩
  rcases Nat.lt_or_eq_of_le hk with hlk' | rfl
  case inr =>
    simp (maxSteps := 1000000) (disch := omega) only [push_cast, ↓wc_seq, ↓wc_condL, ↓wc_region, ↓wr_cons, ↓wr_nil, ↓wc_exit, wo_some, opQ_eq, seqQ_normal, seqQ_exit, blockQ_normal, blockQ_exit, iterQ_exit, pickC_false, Nat.reduceAdd, Nat.reduceMul, Nat.reduceLT, Nat.reduceEqDiff, ↓reduceIte, planIds, List.contains_cons, List.contains_nil, Nat.reduceBEq, setC, List.length_set, eq_self, Int.ofNat_lt, Nat.zero_add, planIds, List.contains_cons, List.contains_nil, Nat.reduceBEq, Nat.reduceMul, Nat.reduceAdd, ↓reduceIte, hal, h3, h4, h13, h14, h15, h53, h54, Nat.lt_irrefl]
    exact ⟨_, _, w0, w1, hput⟩
  obtain ⟨y, hy⟩ : ∃ y, x.cabs[k]? = some y := ⟨x.cabs[k], by simp⟩
  have hym := List.mem_of_getElem? hy
  have hyl := hxs.cls y hym
  have zy := zx.nm y hym
  have hcl' := cabL_len (cnfS i) x.cabs hxs.cls k
  have cdk := dec2_c (n := n) (by omega) (i := k) (by omega)
  have hdk := dec2_size k
  have hcz := cnf_size i
  have hw7b : (ByteArray.mk #[32, 99, 97, 98, 105, 110, 32]).size = 7 := rfl
  have m2 := mxs (a := cnfS i) (b := ByteArray.mk #[32, 99, 97, 98, 105, 110, 32]) (by rw [hw7b]; omega)
  have m3 := mxs (a := cnfS i ++ ByteArray.mk #[32, 99, 97, 98, 105, 110, 32]) (b := dec2 k) (by rw [ByteArray.size_append, hw7b]; omega)
  have hat2 : cnfS i ++ ByteArray.mk #[32, 99, 97, 98, 105, 110, 32] ++ dec2 k = cbnS (cnfS i) k := rfl
  have hbz : (cbnS (cnfS i) k).size ≤ 100 := by
    unfold cbnS
    rw [ByteArray.size_append, ByteArray.size_append, hw7b]; omega
  have ccn := code38 (n := n) (s := y.name) (l := 1) (m := 8) (by omega) zy.2
  have kon := keyOk_str zy.2
  have hlkn := hns.2 y.name
  have hputn := hns.put y.name
  have hstn : (x.cabs.take k).map (·.name) ++ [y.name] = (x.cabs.take (k + 1)).map (·.name) := by
    rw [List.take_add_one, hy, List.map_append]; rfl
  rw [hstn] at hputn
  have b0 := w0.lt
  have b1 := lt_of_get w1
  have b8 := lt_of_get w8
  have b9 := lt_of_get w9
  obtain ⟨d1, w0x, gX⟩ := (w0.push (cabR y)).path (q := cbnS (cnfS i) k)
  obtain ⟨X, hX⟩ : ∃ X, X = (W ++ [cabR y]).set 0 (.row 2 [[d1, .str (cbnS (cnfS i) k)]]) := ⟨_, rfl⟩
  rw [← hX] at gX
  have x1 : X[1]? = some (.map kS (putM ps (.str x.equip) (.bool true))) := by rw [hX, List.getElem?_set_ne (by decide)]; exact get_old w1
  have x8 : X[N8]? = some (.map kS ns) := by rw [hX, List.getElem?_set_ne (by omega)]; exact get_old w8
  have x9 : X[N9]? = some (.map kS cs) := by rw [hX, List.getElem?_set_ne (by omega)]; exact get_old w9
  have xb : X[W.length]? = some (cabR y) := by rw [hX, List.getElem?_set_ne (by omega)]; exact get_end
  obtain ⟨X1, a1, g1, k1⟩ := gX.add (n := n) (by omega) (by rw [List.length_append]; omega) (!codeS y.name 1 8) 5
  have i1 := ifF_len (!codeS y.name 1 8) 5 (cbnS (cnfS i) k)
  obtain ⟨X2, a2, g2, k2⟩ := g1.add (n := n) (by omega) (by rw [List.length_append, List.length_append]; omega) (inB y.name ((x.cabs.take k).map (·.name))) 6
  have i2 := ifF_len (inB y.name ((x.cabs.take k).map (·.name))) 6 (cbnS (cnfS i) k)
  have x11 := k1 _ _ (by decide) not_fault_map x1
  have x18 := k1 _ _ (by omega) not_fault_map x8
  have x19 := k1 _ _ (by omega) not_fault_map x9
  have x1b := k1 _ _ (by omega) (cabR_nf y) xb
  have x21 := k2 _ _ (by decide) not_fault_map x11
  have x28 := k2 _ _ (by omega) not_fault_map x18
  have x29 := k2 _ _ (by omega) not_fault_map x19
  have x2b := k2 _ _ (by omega) (cabR_nf y) x1b
  have gY := g2.set (o' := .map kS (putM ns (.str y.name) (.bool true))) x28 not_fault_map (by omega)
  obtain ⟨Y, hY⟩ : ∃ Y, Y = X2.set N8 (.map kS (putM ns (.str y.name) (.bool true))) := ⟨_, rfl⟩
  rw [← hY] at gY
  have y1 : Y[1]? = some (.map kS (putM ps (.str x.equip) (.bool true))) := by rw [hY, List.getElem?_set_ne (by omega)]; exact x21
  have y8 : Y[N8]? = some (.map kS (putM ns (.str y.name) (.bool true))) := by rw [hY]; exact List.getElem?_set_self (lt_of_get x28)
  have y9 : Y[N9]? = some (.map kS cs) := by rw [hY, List.getElem?_set_ne (by omega)]; exact x29
  have yb : Y[W.length]? = some (cabR y) := by rw [hY, List.getElem?_set_ne (by omega)]; exact x2b
  obtain ⟨T', cs', p'', ck, e0, e9, hcs', hkp⟩ := ckabG_c (n := n) (by omega) hbz gY (by rw [List.length_append, List.length_append, List.length_append]; omega) hyl y9 hcs (fun z hz' => (zx.cl y hym z hz').2)
  rw [← codes_take_succ hy] at hcs'
  have e1 := hkp 1 _ (by decide) (by omega) not_fault_map y1
  have e8 := hkp N8 _ (by omega) (by omega) not_fault_map y8
  have hcab : f3 ++ cabL (cnfS i) x.cabs k ++ ifF (!codeS y.name 1 8) 5 (cbnS (cnfS i) k) ++ ifF (inB y.name ((x.cabs.take k).map (·.name))) 6 (cbnS (cnfS i) k) ++ ifF (!rngB y) 2 (cbnS (cnfS i) k) ++ ifF (decide (y.cls.length < 1) || decide (26 < y.cls.length)) 4 (cbnS (cnfS i) k) ++ clsL (cbnS (cnfS i) k) (codes (x.cabs.take k)) y y.cls.length = f3 ++ cabL (cnfS i) x.cabs (k + 1) := by
    rw [cabL, hy]
    simp only [cabF, List.append_assoc]
  rw [hcab] at e0
  simp only [Cab.enc] at ck
  refine wc_scut (fun a T' => W = T' ∧ a.length = 85 ∧ a[3]? = some (.loc 0 0 0) ∧ a[4]? = some (.map 1) ∧ a[7]? = some (.str (cnfS i)) ∧ a[8]? = some (.map N8) ∧ a[9]? = some (.map N9) ∧ a[13]? = some (.sl 2 (l.map Cfg.enc) lx) ∧ a[14]? = some (.int .i64 l.length) ∧ a[15]? = some (.int .i64 i) ∧ a[52]? = some (.sl 4 (x.cabs.map Cab.enc) x.cabsx) ∧ a[53]? = some (.int .i64 x.cabs.length) ∧ a[54]? = some (.int .i64 k) ∧ a[55]? = some (.bool true)) ?_ ?_
  · simp (maxSteps := 1000000) (disch := omega) only [push_cast, ↓wc_region, ↓wr_cons, ↓wr_nil, wo_some, opQ_eq, Nat.reduceAdd, Nat.reduceMul, Nat.reduceLT, Nat.reduceEqDiff, ↓reduceIte, planIds, List.contains_cons, List.contains_nil, Nat.reduceBEq, setC, List.length_set, eq_self, Int.ofNat_lt, Nat.zero_add, planIds, List.contains_cons, List.contains_nil, Nat.reduceBEq, Nat.reduceMul, Nat.reduceAdd, ↓reduceIte, hal, h3, h4, h7, h8, h9, h13, h14, h15, h52, h53, h54, hlk']
  clear hal h3 h4 h7 h8 h9 h13 h14 h15 h52 h53 h54 a
  rintro a T'' ⟨rfl, hal, h3, h4, h7, h8, h9, h13, h14, h15, h52, h53, h54, h55⟩
  refine wc_scut (fun a T' => W = T' ∧ a.length = 85 ∧ a[3]? = some (.loc 0 0 0) ∧ a[4]? = some (.map 1) ∧ a[7]? = some (.str (cnfS i)) ∧ a[8]? = some (.map N8) ∧ a[9]? = some (.map N9) ∧ a[13]? = some (.sl 2 (l.map Cfg.enc) lx) ∧ a[14]? = some (.int .i64 l.length) ∧ a[15]? = some (.int .i64 i) ∧ a[52]? = some (.sl 4 (x.cabs.map Cab.enc) x.cabsx) ∧ a[53]? = some (.int .i64 x.cabs.length) ∧ a[54]? = some (.int .i64 k)) ?_ ?_
  · simp (maxSteps := 1000000) (disch := omega) only [push_cast, ↓wc_condL, ↓wc_skip, pickC_true, eq_self, hal, h3, h4, h7, h8, h9, h13, h14, h15, h52, h53, h54, h55]
  clear hal h3 h4 h7 h8 h9 h13 h14 h15 h52 h53 h54 h55 a
  rintro a T'' ⟨rfl, hal, h3, h4, h7, h8, h9, h13, h14, h15, h52, h53, h54⟩
  refine wc_scut (fun a U' => T' = U' ∧ a.length = 85 ∧ a[3]? = some (.loc 0 0 0) ∧ a[4]? = some (.map 1) ∧ a[7]? = some (.str (cnfS i)) ∧ a[8]? = some (.map N8) ∧ a[9]? = some (.map N9) ∧ a[13]? = some (.sl 2 (l.map Cfg.enc) lx) ∧ a[14]? = some (.int .i64 l.length) ∧ a[15]? = some (.int .i64 i) ∧ a[52]? = some (.sl 4 (x.cabs.map Cab.enc) x.cabsx) ∧ a[53]? = some (.int .i64 x.cabs.length) ∧ a[54]? = some (.int .i64 k)) ?_ ?_
  case refine_2 =>
    clear hal h3 h4 h7 h8 h9 h13 h14 h15 h52 h53 h54 a
    rintro a T'' ⟨rfl, hal, h3, h4, h7, h8, h9, h13, h14, h15, h52, h53, h54⟩
    simp (maxSteps := 1000000) (disch := omega) only [push_cast, ↓wc_region, ↓wr_cons, ↓wr_nil, wo_some, opQ_eq, iterQ_normal, Nat.reduceAdd, Nat.reduceMul, Nat.reduceLT, Nat.reduceEqDiff, ↓reduceIte, planIds, List.contains_cons, List.contains_nil, Nat.reduceBEq, setC, List.length_set, eq_self, Nat.zero_add, planIds, List.contains_cons, List.contains_nil, Nat.reduceBEq, Nat.reduceMul, Nat.reduceAdd, ↓reduceIte, hal, h3, h4, h7, h8, h9, h13, h14, h15, h52, h53, h54, wrap_ok, Int.natCast_add, Int.natCast_one]
    exact ⟨hlk', _, _, _, e0, e1, e8, hputn, e9, hcs'⟩
  rw [wc_block]
  refine wc_scut (fun a T' => W ++ [cabR y] = T' ∧ a.length = 85 ∧ a[3]? = some (.loc 0 0 0) ∧ a[4]? = some (.map 1) ∧ a[7]? = some (.str (cnfS i)) ∧ a[8]? = some (.map N8) ∧ a[9]? = some (.map N9) ∧ a[10]? = some (.int .i64 k) ∧ a[11]? = some (.loc W.length 0 0) ∧ a[13]? = some (.sl 2 (l.map Cfg.enc) lx) ∧ a[14]? = some (.int .i64 l.length) ∧ a[15]? = some (.int .i64 i) ∧ a[52]? = some (.sl 4 (x.cabs.map Cab.enc) x.cabsx) ∧ a[53]? = some (.int .i64 x.cabs.length) ∧ a[54]? = some (.int .i64 k)) ?_ ?_
  · simp (maxSteps := 1000000) (disch := omega) only [push_cast, ↓wc_region, ↓wr_cons, ↓wr_nil, wo_some, opQ_eq, Nat.reduceAdd, Nat.reduceMul, Nat.reduceLT, Nat.reduceLeDiff, Nat.reduceEqDiff, ↓reduceIte, planIds, List.contains_cons, List.contains_nil, Nat.reduceBEq, setC, List.length_set, eq_self, Int.natCast_nonneg, Int.toNat_natCast, Nat.zero_add, planIds, List.contains_cons, List.contains_nil, Nat.reduceBEq, Nat.reduceMul, Nat.reduceAdd, ↓reduceIte, hal, h3, h4, h7, h8, h9, h13, h14, h15, h52, h53, h54, hy, Cab.enc, cabR, set_end, get_end, List.getElem?_map]
  clear hal h3 h4 h7 h8 h9 h13 h14 h15 h52 h53 h54 a
  rintro a T'' ⟨rfl, hal, h3, h4, h7, h8, h9, h10, h11, h13, h14, h15, h52, h53, h54⟩
  refine wc_scut (fun a T' => X = T' ∧ a.length = 85 ∧ a[3]? = some (.loc 0 0 0) ∧ a[4]? = some (.map 1) ∧ a[7]? = some (.str (cnfS i)) ∧ a[8]? = some (.map N8) ∧ a[9]? = some (.map N9) ∧ a[11]? = some (.loc W.length 0 0) ∧ a[13]? = some (.sl 2 (l.map Cfg.enc) lx) ∧ a[14]? = some (.int .i64 l.length) ∧ a[15]? = some (.int .i64 i) ∧ a[52]? = some (.sl 4 (x.cabs.map Cab.enc) x.cabsx) ∧ a[53]? = some (.int .i64 x.cabs.length) ∧ a[54]? = some (.int .i64 k)) ?_ ?_
  · simp (maxSteps := 1000000) (disch := omega) only [push_cast, ↓wc_region, ↓wr_cons, ↓wr_nil, ↓wo_callf, wo_some, opQ_eq, Nat.reduceAdd, Nat.reduceMul, Nat.reduceLT, Nat.reduceLeDiff, Nat.reduceEqDiff, ↓reduceIte, planIds, hasExt, cntFs, idxFs, clnFs, ovlFs, List.contains_cons, List.contains_nil, List.any_nil, Nat.reduceBEq, setC, List.length_set, eq_self, Nat.zero_add, gt_iff_lt, planIds, hasExt, cntFs, idxFs, clnFs, ovlFs, List.contains_cons, List.contains_nil, List.any_nil, Nat.reduceBEq, Nat.reduceMul, Nat.reduceAdd, ↓reduceIte, hal, h3, h4, h7, h8, h9, h10, h11, h13, h14, h15, h52, h53, h54, cdk, m2, m3, hat2, w0x, ← hX]
  clear hal h3 h4 h7 h8 h9 h10 h11 h13 h14 h15 h52 h53 h54 a
  rintro a T'' ⟨rfl, hal, h3, h4, h7, h8, h9, h11, h13, h14, h15, h52, h53, h54⟩
  refine wc_scut (fun a T' => X1 = T' ∧ a.length = 85 ∧ a[3]? = some (.loc 0 0 0) ∧ a[4]? = some (.map 1) ∧ a[7]? = some (.str (cnfS i)) ∧ a[8]? = some (.map N8) ∧ a[9]? = some (.map N9) ∧ a[11]? = some (.loc W.length 0 0) ∧ a[13]? = some (.sl 2 (l.map Cfg.enc) lx) ∧ a[14]? = some (.int .i64 l.length) ∧ a[15]? = some (.int .i64 i) ∧ a[52]? = some (.sl 4 (x.cabs.map Cab.enc) x.cabsx) ∧ a[53]? = some (.int .i64 x.cabs.length) ∧ a[54]? = some (.int .i64 k)) ?_ ?_
  · simp (maxSteps := 1000000) (disch := omega) only [push_cast, ↓wc_region, ↓wr_cons, ↓wr_nil, ↓wo_callf, wo_some, opQ_eq, Nat.reduceAdd, Nat.reduceMul, Nat.reduceLT, Nat.reduceEqDiff, ↓reduceIte, planIds, hasExt, cntFs, idxFs, clnFs, ovlFs, List.contains_cons, List.contains_nil, List.any_nil, Nat.reduceBEq, setC, List.length_set, eq_self, Nat.zero_add, Nat.add_zero, planIds, hasExt, cntFs, idxFs, clnFs, ovlFs, List.contains_cons, List.contains_nil, List.any_nil, Nat.reduceBEq, Nat.reduceMul, Nat.reduceAdd, ↓reduceIte, hal, h3, h4, h7, h8, h9, h11, h13, h14, h15, h52, h53, h54, xb, ccn, a1]
  clear hal h3 h4 h7 h8 h9 h11 h13 h14 h15 h52 h53 h54 a
  rintro a T'' ⟨rfl, hal, h3, h4, h7, h8, h9, h11, h13, h14, h15, h52, h53, h54⟩
  refine wc_scut (fun a T' => X2 = T' ∧ a.length = 85 ∧ a[3]? = some (.loc 0 0 0) ∧ a[4]? = some (.map 1) ∧ a[7]? = some (.str (cnfS i)) ∧ a[8]? = some (.map N8) ∧ a[9]? = some (.map N9) ∧ a[11]? = some (.loc W.length 0 0) ∧ a[13]? = some (.sl 2 (l.map Cfg.enc) lx) ∧ a[14]? = some (.int .i64 l.length) ∧ a[15]? = some (.int .i64 i) ∧ a[52]? = some (.sl 4 (x.cabs.map Cab.enc) x.cabsx) ∧ a[53]? = some (.int .i64 x.cabs.length) ∧ a[54]? = some (.int .i64 k)) ?_ ?_
  · cases hin : inB y.name ((x.cabs.take k).map (·.name))
    · rw [hin, if_neg (by simp)] at hlkn
      rw [hin] at a2
      simp (maxSteps := 1000000) (disch := omega) only [push_cast, ↓wc_region, ↓wr_cons, ↓wr_nil, ↓wo_callf, wo_some, opQ_eq, Nat.reduceAdd, Nat.reduceMul, Nat.reduceLT, Nat.reduceEqDiff, ↓reduceIte, planIds, hasExt, cntFs, idxFs, clnFs, ovlFs, List.contains_cons, List.contains_nil, List.any_nil, Nat.reduceBEq, setC, List.length_set, eq_self, Nat.zero_add, Nat.add_zero, planIds, hasExt, cntFs, idxFs, clnFs, ovlFs, List.contains_cons, List.contains_nil, List.any_nil, Nat.reduceBEq, Nat.reduceMul, Nat.reduceAdd, ↓reduceIte, hal, h3, h4, h7, h8, h9, h11, h13, h14, h15, h52, h53, h54, x1b, x18, kon, ks, hlkn, a2]
    · rw [hin, if_pos rfl] at hlkn
      rw [hin] at a2
      simp (maxSteps := 1000000) (disch := omega) only [push_cast, ↓wc_region, ↓wr_cons, ↓wr_nil, ↓wo_callf, wo_some, opQ_eq, Nat.reduceAdd, Nat.reduceMul, Nat.reduceLT, Nat.reduceEqDiff, ↓reduceIte, planIds, hasExt, cntFs, idxFs, clnFs, ovlFs, List.contains_cons, List.contains_nil, List.any_nil, Nat.reduceBEq, setC, List.length_set, eq_self, Nat.zero_add, Nat.add_zero, planIds, hasExt, cntFs, idxFs, clnFs, ovlFs, List.contains_cons, List.contains_nil, List.any_nil, Nat.reduceBEq, Nat.reduceMul, Nat.reduceAdd, ↓reduceIte, hal, h3, h4, h7, h8, h9, h11, h13, h14, h15, h52, h53, h54, x1b, x18, kon, ks, hlkn, a2]
  clear hal h3 h4 h7 h8 h9 h11 h13 h14 h15 h52 h53 h54 a
  rintro a T'' ⟨rfl, hal, h3, h4, h7, h8, h9, h11, h13, h14, h15, h52, h53, h54⟩
  refine wc_scut (fun a T' => Y = T' ∧ a.length = 85 ∧ a[3]? = some (.loc 0 0 0) ∧ a[4]? = some (.map 1) ∧ a[7]? = some (.str (cnfS i)) ∧ a[8]? = some (.map N8) ∧ a[9]? = some (.map N9) ∧ a[11]? = some (.loc W.length 0 0) ∧ a[13]? = some (.sl 2 (l.map Cfg.enc) lx) ∧ a[14]? = some (.int .i64 l.length) ∧ a[15]? = some (.int .i64 i) ∧ a[52]? = some (.sl 4 (x.cabs.map Cab.enc) x.cabsx) ∧ a[53]? = some (.int .i64 x.cabs.length) ∧ a[54]? = some (.int .i64 k)) ?_ ?_
  · simp (maxSteps := 1000000) (disch := omega) only [push_cast, ↓wc_region, ↓wr_cons, ↓wr_nil, wo_some, opQ_eq, Nat.reduceAdd, Nat.reduceMul, Nat.reduceLT, Nat.reduceEqDiff, ↓reduceIte, planIds, List.contains_cons, List.contains_nil, Nat.reduceBEq, setC, List.length_set, eq_self, Nat.zero_add, Nat.add_zero, planIds, List.contains_cons, List.contains_nil, Nat.reduceBEq, Nat.reduceMul, Nat.reduceAdd, ↓reduceIte, hal, h3, h4, h7, h8, h9, h11, h13, h14, h15, h52, h53, h54, x2b, x28, kon, ks, ← hY]
  clear hal h3 h4 h7 h8 h9 h11 h13 h14 h15 h52 h53 h54 a
  rintro a T'' ⟨rfl, hal, h3, h4, h7, h8, h9, h11, h13, h14, h15, h52, h53, h54⟩
  simp (maxSteps := 1000000) (disch := omega) only [push_cast, ↓wc_region, ↓wr_cons, ↓wr_nil, ↓wo_callf, wo_some, opQ_eq, blockQ_normal, Nat.reduceAdd, Nat.reduceMul, Nat.reduceLT, Nat.reduceLeDiff, Nat.reduceEqDiff, ↓reduceIte, planIds, hasExt, cntFs, idxFs, clnFs, ovlFs, List.contains_cons, List.contains_nil, List.any_nil, Nat.reduceBEq, setC, List.length_set, eq_self, Nat.zero_add, planIds, hasExt, cntFs, idxFs, clnFs, ovlFs, List.contains_cons, List.contains_nil, List.any_nil, Nat.reduceBEq, Nat.reduceMul, Nat.reduceAdd, ↓reduceIte, hal, h3, h4, h7, h8, h9, h11, h13, h14, h15, h52, h53, h54, yb, ck]
theorem CheckG_c {n : Nat} {l : List Cfg} {lx : Bool} (hn : 301 ≤ n) (hl : l.length ≤ 30) (hsm : ∀ c ∈ l, Sm c) (hz : ∀ c ∈ l, CfgZ (n - 1) c) :
    ∃ x, FLs 2 encF x (cfgL l l.length) ∧ ∀ st S, callD E (dcall E n) st S 70 [.sl 2 (l.map Cfg.enc) lx] = some (x, S) := by
  obtain ⟨m, rfl⟩ : ∃ m, n = m + 1 := ⟨n - 1, by omega⟩
  obtain ⟨d, T, ho, hg⟩ := CheckG_d (n := m) (lx := lx) (by omega) hl hsm hz
  obtain ⟨d', hf, hd⟩ := hg.fls (encF_pure _)
  exact ⟨d', hd, fun st S => callD_pure rfl (by simp [pureL_cons, pureL_nil, D.pure, Cfgs_pure]) ho hf⟩
end Go.Proofs.YtlamgjbngblefaaGreatDoor.Dm
