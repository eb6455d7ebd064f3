/-
  StockNone: A nil inventory, a zero value, and wrong configurations have no inventory. On plain data, and its walk.
-/
import Derived.Test.YtlamgjbngblefaaGreatDoorSnD
import Derived.Test.YtlamgjbngblefaaGreatDoorSnM
import Derived.Test.YtlamgjbngblefaaGreatDoorSkH
namespace Go.Proofs.YtlamgjbngblefaaGreatDoor.Dm
open Go Gw
set_option linter.unusedSimpArgs false
set_option linter.unusedSimpArgs false

theorem plain_fault_n : plainEqT Tryz.prog 136 = true := by kernel_rfl
set_option maxRecDepth 100000 in
theorem eq_fault_n (a : Int) (s : ByteArray) : dEq Tryz.prog 10000 136 (.agg [.int .i64 a, .str s]) (.agg [.int .i64 a, .str s]) = some true := by
  rw [show (10000 : Nat) = 9998 + 1 + 1 from rfl]
  have hs : Tryz.prog.stoodInHeld 136 = false := by kernel_rfl
  simp (decide := true) only [push_cast, dEq, dEqs, beq_self_eq_true, bytes_refl, hs]
theorem awake15_n {n : Nat} (hn : 1 ≤ n) (st : Bool) (S : List Ob) : callD E (dcall E n) st S 26 [] = some (.bool true, S) := by
  obtain ⟨q, rfl⟩ : ∃ q, n = q + 1 := ⟨n - 1, by omega⟩
  exact callD_pure (T := []) rfl rfl rfl rfl
theorem CfgZ.mono0 {n m : Nat} {c : Cfg} (h : CfgZ n c) (hm : n ≤ m) : CfgZ m c :=
  ⟨⟨by have := h.eq; omega, h.eq.2⟩, fun y hy => ⟨by have := h.nm y hy; omega, (h.nm y hy).2⟩, fun y hy z hz => ⟨by have := h.cl y hy z hz; omega, (h.cl y hy z hz).2⟩⟩
theorem FLs.sl {d : D} {fs : List (Int × ByteArray)} (h : FLs 2 encF d fs) (hne : fs ≠ []) : ∃ x, d = .sl 2 (fs.map encF) x := by
  rcases h with ⟨-, h⟩ | h
  · exact absurd h hne
  · exact h
set_option maxHeartbeats 4000000 in
theorem Same_c {n : Nat} {fs : List (Int × ByteArray)} {x y : Bool} (hn : fs.length + 10 ≤ n) (hl : fs.length ≤ 100000) (st : Bool) (S : List Ob) : callD E (dcall E n) st S 47 [.sl 2 (fs.map encF) x, .sl 2 (fs.map encF) y] = some (.bool true, S) := by
  obtain ⟨m, rfl⟩ : ∃ m, n = m + 1 := ⟨n - 1, by omega⟩
  have : WO (dcall E (m + 1) 47 [.sl 2 (fs.map encF) x, .sl 2 (fs.map encF) y] []) fun d T => d = .bool true := by
    refine wo_dcall Tryz.func47 rfl (by decide) rfl 26 rfl (fun a hal ha => ?_)
    have h0 : a[0]? = some (.sl 2 (fs.map encF) x) := ha 0 (by simp)
    have h1 : a[1]? = some (.sl 2 (fs.map encF) y) := ha 1 (by simp)
    clear ha
    simp (maxSteps := 1000000) (disch := omega) only [push_cast, ↓wc_seq, ↓wc_block, ↓wc_condL, ↓wc_region, ↓wr_cons, ↓wr_nil, ↓wc_skip, ↓wc_wl, wo_some, opQ_eq, seqQ_normal, pickC_false, int_bne, Nat.reduceAdd, Nat.reduceMul, Nat.reduceLT, Nat.reduceEqDiff, ↓reduceIte, planIds, List.contains_cons, List.contains_nil, Nat.reduceBEq, setC, List.length_set, reduceCtorEq, eq_self, Nat.zero_add, not_true_eq_false, planIds, List.contains_cons, List.contains_nil, Nat.reduceBEq, Nat.reduceMul, Nat.reduceAdd, ↓reduceIte, hal, h0, h1, List.length_map]
    refine wl_loop (fun i a T => T = [] ∧ a.length = 26 ∧ a[0]? = some (.sl 2 (fs.map encF) x) ∧ a[1]? = some (.sl 2 (fs.map encF) y) ∧ a[5]? = some (.int .i64 i)) fs.length ?_ (by omega) ?_
    · simp (maxSteps := 1000000) (disch := omega) only [push_cast, Nat.reduceLT, Nat.reduceEqDiff, ↓reduceIte, setC, List.length_set, reduceCtorEq, eq_self, ↓reduceIte, hal, h0, h1, Int.natCast_zero]
    clear hal h0 h1 a
    rintro i a T hi ⟨rfl, hal, h0, h1, h5⟩
    rcases Nat.lt_or_eq_of_le hi with hlt | rfl
    case inr => simp (maxSteps := 1000000) (disch := omega) only [push_cast, ↓wc_seq, ↓wc_condL, ↓wc_region, ↓wr_cons, ↓wr_nil, ↓wc_exit, ↓wc_ret, wo_some, opQ_eq, seqQ_normal, seqQ_exit, blockQ_exit, iterQ_exit, retQ_ret, pickC_false, Nat.reduceAdd, Nat.reduceMul, Nat.reduceLT, Nat.reduceEqDiff, ↓reduceIte, planIds, List.contains_cons, List.contains_nil, Nat.reduceBEq, setC, List.length_set, reduceCtorEq, eq_self, Int.ofNat_lt, Nat.zero_add, planIds, List.contains_cons, List.contains_nil, Nat.reduceBEq, Nat.reduceMul, Nat.reduceAdd, ↓reduceIte, hal, h0, h5, Nat.lt_irrefl, List.length_map, Tryz.f47]
    obtain ⟨f, hf⟩ : ∃ f, fs[i]? = some f := ⟨fs[i], by simp⟩
    simp (maxSteps := 1000000) (disch := omega) only [push_cast, ↓wc_seq, ↓wc_block, ↓wc_condL, ↓wc_region, ↓wr_cons, ↓wr_nil, ↓wc_skip, wo_some, opQ_eq, seqQ_normal, blockQ_normal, iterQ_normal, pickC_true, pickC_false, Nat.reduceAdd, Nat.reduceMul, Nat.reduceLT, Nat.reduceLeDiff, Nat.reduceEqDiff, ↓reduceIte, planIds, List.contains_cons, List.contains_nil, Nat.reduceBEq, setC, List.length_set, reduceCtorEq, eq_self, Int.natCast_nonneg, Int.toNat_natCast, Int.ofNat_lt, Nat.zero_add, planIds, List.contains_cons, List.contains_nil, Nat.reduceBEq, Nat.reduceMul, Nat.reduceAdd, ↓reduceIte, hal, h0, h1, h5, hlt, hf, encF, plain_fault_n, eq_fault_n, List.length_map, List.getElem?_map, wrap_ok, Int.natCast_add, Int.natCast_one]
  obtain ⟨d, T, ho, rfl⟩ := this
  exact callD_pure rfl (by simp [pureL_cons, pureL_nil, D.pure, encF_pure]) ho rfl
/-- A new inventory of configurations with violations, or without. -/
theorem NewG_c {n : Nat} {l : List Cfg} {lx : Bool} {x : D} (hn : 1 ≤ n) (hx : FLs 2 encF x (cfgL l l.length)) (cc : ∀ st S, callD E (dcall E (n - 1)) st S 70 [.sl 2 (l.map Cfg.enc) lx] = some (x, S)) (st : Bool) (S : List Ob) :
    ∃ J p f, callD E (dcall E n) st S 27 [.sl 2 (l.map Cfg.enc) lx] = some (.tup [p, f], S ++ J) ∧ (cfgL l l.length ≠ [] → p = .nilp ∧ f = x) ∧ (p = .nilp ∨ ∃ k, p = .loc k 0 0) := by
  obtain ⟨m, rfl⟩ : ∃ m, n = m + 1 := ⟨n - 1, by omega⟩
  have cc : ∀ st S, callD E (dcall E m) st S 70 [.sl 2 (l.map Cfg.enc) lx] = some (x, S) := cc
  have : WO (dcall E (m + 1) 27 [.sl 2 (l.map Cfg.enc) lx] S) fun d T => ∃ J p f, d = .tup [p, f] ∧ T = S ++ J ∧ (cfgL l l.length ≠ [] → p = .nilp ∧ f = x) ∧ (p = .nilp ∨ ∃ k, p = .loc k 0 0) := by
    by_cases he : cfgL l l.length = []
    · rw [he] at hx ⊢
      have hlen : x = .nils ∨ ∃ y, x = .sl 2 [] y := by
        rcases hx with ⟨h, -⟩ | ⟨y, h⟩
        · exact .inl h
        · exact .inr ⟨y, h⟩
      refine wo_dcall Tryz.func27 rfl (by decide) rfl 15 rfl (fun a hal ha => ?_)
      have h0 : a[0]? = some (.sl 2 (l.map Cfg.enc) lx) := ha 0 (by simp)
      clear ha
      rcases hlen with rfl | ⟨y, rfl⟩
      · simp (maxSteps := 1000000) (disch := omega) only [push_cast, ↓wc_seq, ↓wc_condL, ↓wc_region, ↓wr_cons, ↓wr_nil, ↓wo_callf, ↓wc_ret, ↓wc_skip, wo_some, opQ_eq, seqQ_normal, retQ_ret, pickC_false, Nat.reduceAdd, Nat.reduceMul, Nat.reduceLT, Nat.reduceLeDiff, Nat.reduceEqDiff, ↓wo_build, evParts, ↓reduceIte, planIds, hasExt, cntFs, idxFs, clnFs, ovlFs, List.contains_cons, List.contains_nil, List.any_nil, Nat.reduceBEq, setC, List.length_set, false_implies, reduceCtorEq, eq_self, Nat.zero_add, gt_iff_lt, ne_eq, not_true_eq_false, planIds, hasExt, cntFs, idxFs, clnFs, ovlFs, List.contains_cons, List.contains_nil, List.any_nil, Nat.reduceBEq, Nat.reduceMul, Nat.reduceAdd, ↓reduceIte, hal, h0, cc, Int.lt_irrefl, gt_iff_lt, Tryz.f27]
        exact ⟨_, _, _, rfl, List.append_assoc _ _ _, .inr ⟨_, rfl⟩⟩
      · simp (maxSteps := 1000000) (disch := omega) only [push_cast, ↓wc_seq, ↓wc_condL, ↓wc_region, ↓wr_cons, ↓wr_nil, ↓wo_callf, ↓wc_ret, ↓wc_skip, wo_some, opQ_eq, seqQ_normal, retQ_ret, pickC_false, Nat.reduceAdd, Nat.reduceMul, Nat.reduceLT, Nat.reduceLeDiff, Nat.reduceEqDiff, ↓wo_build, evParts, ↓reduceIte, planIds, hasExt, cntFs, idxFs, clnFs, ovlFs, List.contains_cons, List.contains_nil, List.any_nil, Nat.reduceBEq, setC, List.length_set, false_implies, reduceCtorEq, eq_self, Nat.zero_add, gt_iff_lt, ne_eq, not_true_eq_false, planIds, hasExt, cntFs, idxFs, clnFs, ovlFs, List.contains_cons, List.contains_nil, List.any_nil, Nat.reduceBEq, Nat.reduceMul, Nat.reduceAdd, ↓reduceIte, hal, h0, cc, Int.lt_irrefl, Int.natCast_zero, gt_iff_lt, Tryz.f27]
        exact ⟨_, _, _, rfl, List.append_assoc _ _ _, .inr ⟨_, rfl⟩⟩
    · obtain ⟨y, rfl⟩ := hx.sl he
      have hpos : (0 : Int) < (cfgL l l.length).length := by
        have : 0 < (cfgL l l.length).length := List.length_pos_iff.2 he
        omega
      refine wo_dcall Tryz.func27 rfl (by decide) rfl 15 rfl (fun a hal ha => ?_)
      have h0 : a[0]? = some (.sl 2 (l.map Cfg.enc) lx) := ha 0 (by simp)
      clear ha
      simp (maxSteps := 1000000) (disch := omega) only [push_cast, ↓wc_seq, ↓wc_condL, ↓wc_region, ↓wr_cons, ↓wr_nil, ↓wo_callf, ↓wc_ret, wo_some, opQ_eq, seqQ_normal, seqQ_ret, retQ_ret, pickC_true, Nat.reduceAdd, Nat.reduceMul, Nat.reduceLT, Nat.reduceEqDiff, ↓reduceIte, planIds, hasExt, cntFs, idxFs, clnFs, ovlFs, List.contains_cons, List.contains_nil, List.any_nil, Nat.reduceBEq, setC, List.length_set, reduceCtorEq, eq_self, Nat.zero_add, gt_iff_lt, ne_eq, planIds, hasExt, cntFs, idxFs, clnFs, ovlFs, List.contains_cons, List.contains_nil, List.any_nil, Nat.reduceBEq, Nat.reduceMul, Nat.reduceAdd, ↓reduceIte, hal, h0, cc, hpos, List.length_map, gt_iff_lt, Tryz.f27]
      exact ⟨[], _, _, rfl, (List.append_nil _).symm, fun _ => ⟨rfl, rfl⟩, .inl rfl⟩
  obtain ⟨d, T, ho, J, p, f, rfl, rfl, h1, h2⟩ := this
  exact ⟨J, p, f, (callD_gen rfl).trans ho, h1, h2⟩
set_option maxHeartbeats 16000000 in
set_option maxRecDepth 100000 in
theorem StockNone_d {n : Nat} (hn : 30000 ≤ n) {l : List Cfg} {lx : Bool} {id : Lid} {cl : ByteArray} {w : Int} (hz : ∀ c ∈ l, CfgZ (n - 3) c) :
    ∃ T, dcall E (n + 1) 12 [.sl 2 (l.map Cfg.enc) lx, .agg id.enc, .str cl, .int .i64 w] [] = some (.bool true, T) := by
  have cw := fun st S => awake15_n (n := n) (by omega) st S
  have sm := fun st S => Small_c (n := n) (l := l) (lx := lx) (by omega) st S
  have : WO (dcall E (n + 1) 12 [.sl 2 (l.map Cfg.enc) lx, .agg id.enc, .str cl, .int .i64 w] []) fun r T => r = .bool true := by
    refine wo_dcall Tryz.func12 rfl (by decide) rfl 141 rfl (fun a hal ha => ?_)
    have h0 : a[0]? = some (.sl 2 (l.map Cfg.enc) lx) := ha 0 (by simp)
    have h1 : a[1]? = some (.agg id.enc) := ha 1 (by simp)
    have h2 : a[2]? = some (.str cl) := ha 2 (by simp)
    have h3 : a[3]? = some (.int .i64 w) := ha 3 (by simp)
    clear ha
    cases hb : smallB l
    · rw [hb] at sm
      simp only [Lid.enc] at h1
      simp (maxSteps := 1000000) (disch := omega) only [push_cast, ↓wc_seq, ↓wc_condL, ↓wc_region, ↓wr_cons, ↓wr_nil, ↓wo_callf, ↓wc_ret, wo_some, opQ_eq, seqQ_normal, seqQ_ret, retQ_ret, pickC_true, Nat.reduceAdd, Nat.reduceMul, Nat.reduceLT, ↓reduceIte, planIds, hasExt, cntFs, idxFs, clnFs, ovlFs, List.contains_cons, List.contains_nil, List.any_nil, Nat.reduceBEq, setC, List.length_set, reduceCtorEq, eq_self, Nat.zero_add, planIds, hasExt, cntFs, idxFs, clnFs, ovlFs, List.contains_cons, List.contains_nil, List.any_nil, Nat.reduceBEq, Nat.reduceMul, Nat.reduceAdd, ↓reduceIte, hal, h0, h1, sm, cw, dUn, Tryz.f12]
    rw [hb] at sm
    obtain ⟨hl8, hsm⟩ := smallB_sm hb
    obtain ⟨x, hx, cc⟩ := CheckG_c (n := n - 1) (l := l) (lx := lx) (by omega) (by omega) hsm (fun c hc => (hz c hc).mono0 (by omega))
    obtain ⟨x', hx', cr⟩ := rCheck_c (n := n) (l := l) (lx := lx) (by omega) (by omega) hsm (fun c hc => (hz c hc).mono0 (by omega))
    have hfl : (cfgL l l.length).length ≤ 22600 := by
      have := cfgL_len l hsm l.length
      omega
    obtain ⟨J, p, f, cn, hp, hpp⟩ := NewG_c (n := n) (by omega) hx cc false [Ob.row 4 [id.enc]]
    refine wc_scut (fun a T => T = [Ob.row 4 [id.enc]] ∧ a.length = 141 ∧ a[0]? = some (.sl 2 (l.map Cfg.enc) lx) ∧ a[2]? = some (.str cl) ∧ a[3]? = some (.int .i64 w) ∧ a[5]? = some (.loc 0 0 0)) ?_ ?_
    · simp only [Lid.enc] at h1 ⊢
      simp (maxSteps := 1000000) (disch := omega) only [push_cast, ↓wc_region, ↓wr_cons, ↓wr_nil, wo_some, opQ_eq, Nat.reduceAdd, Nat.reduceMul, Nat.reduceLT, Nat.reduceEqDiff, ↓reduceIte, planIds, List.contains_cons, List.contains_nil, Nat.reduceBEq, setC, List.length_set, reduceCtorEq, eq_self, Nat.zero_add, planIds, List.contains_cons, List.contains_nil, Nat.reduceBEq, Nat.reduceMul, Nat.reduceAdd, ↓reduceIte, hal, h0, h1, h2, h3]
    clear hal h0 h1 h2 h3 a
    rintro a T ⟨rfl, hal, h0, h2, h3, h5⟩
    obtain ⟨S5, hS5⟩ : ∃ S5, S5 = [Ob.row 4 [id.enc]] ++ J := ⟨_, rfl⟩
    have e5 : S5[0]? = some (.row 4 [id.enc]) := by rw [hS5]; rfl
    refine wc_scut (fun a T => T = [Ob.row 4 [id.enc]] ∧ a.length = 141 ∧ a[0]? = some (.sl 2 (l.map Cfg.enc) lx) ∧ a[2]? = some (.str cl) ∧ a[3]? = some (.int .i64 w) ∧ a[5]? = some (.loc 0 0 0)) ?_ ?_
    · simp (maxSteps := 1000000) (disch := omega) only [push_cast, ↓wc_seq, ↓wc_condL, ↓wc_region, ↓wr_cons, ↓wr_nil, ↓wo_callf, ↓wc_skip, wo_some, opQ_eq, seqQ_normal, pickC_false, Nat.reduceAdd, Nat.reduceMul, Nat.reduceLT, Nat.reduceEqDiff, ↓reduceIte, planIds, hasExt, cntFs, idxFs, clnFs, ovlFs, List.contains_cons, List.contains_nil, List.any_nil, Nat.reduceBEq, setC, List.length_set, reduceCtorEq, eq_self, Nat.zero_add, planIds, hasExt, cntFs, idxFs, clnFs, ovlFs, List.contains_cons, List.contains_nil, List.any_nil, Nat.reduceBEq, Nat.reduceMul, Nat.reduceAdd, ↓reduceIte, hal, h0, h2, h3, h5, sm]
    clear hal h0 h2 h3 h5 a
    rintro a T ⟨rfl, hal, h0, h2, h3, h5⟩
    refine wc_scut (fun a T => T = S5 ∧ a.length = 141 ∧ a[0]? = some (.sl 2 (l.map Cfg.enc) lx) ∧ a[2]? = some (.str cl) ∧ a[3]? = some (.int .i64 w) ∧ a[5]? = some (.loc 0 0 0) ∧ a[9]? = some (p) ∧ a[10]? = some (f)) ?_ ?_
    · simp (maxSteps := 1000000) (disch := omega) only [push_cast, ↓wc_region, ↓wr_cons, ↓wr_nil, ↓wo_callf, wo_some, opQ_eq, Nat.reduceAdd, Nat.reduceMul, Nat.reduceLT, Nat.reduceEqDiff, ↓reduceIte, planIds, hasExt, cntFs, idxFs, clnFs, ovlFs, List.contains_cons, List.contains_nil, List.any_nil, Nat.reduceBEq, setC, List.length_set, reduceCtorEq, eq_self, Nat.zero_add, planIds, hasExt, cntFs, idxFs, clnFs, ovlFs, List.contains_cons, List.contains_nil, List.any_nil, Nat.reduceBEq, Nat.reduceMul, Nat.reduceAdd, ↓reduceIte, hal, h0, h2, h3, h5, cn, ← hS5]
    clear hal h0 h2 h3 h5 a
    rintro a T ⟨rfl, hal, h0, h2, h3, h5, h9, h10⟩
    refine wc_scut (fun a T' => T = T' ∧ a.length = 141 ∧ a[2]? = some (.str cl) ∧ a[3]? = some (.int .i64 w) ∧ a[5]? = some (.loc 0 0 0)) ?_ ?_
    · by_cases he : cfgL l l.length = []
      · rw [he] at hx'
        rcases hx' with ⟨rfl, -⟩ | ⟨y, rfl⟩
        · simp (maxSteps := 1000000) (disch := omega) only [push_cast, ↓wc_seq, ↓wc_condL, ↓wc_region, ↓wr_cons, ↓wr_consgL, ↓wr_nil, ↓wo_pickL, ↓wo_callf, ↓wc_skip, wo_some, opQ_eq, seqQ_normal, pickC_false, pickO_false, gstep_ft, gstep_skip, Nat.reduceAdd, Nat.reduceMul, Nat.reduceLT, Nat.reduceEqDiff, ↓reduceIte, planIds, hasExt, cntFs, idxFs, clnFs, ovlFs, List.contains_cons, List.contains_nil, List.any_nil, Nat.reduceBEq, setC, List.length_set, eq_self, Nat.zero_add, gt_iff_lt, planIds, hasExt, cntFs, idxFs, clnFs, ovlFs, List.contains_cons, List.contains_nil, List.any_nil, Nat.reduceBEq, Nat.reduceMul, Nat.reduceAdd, ↓reduceIte, hal, h0, h2, h3, h5, cr, Int.lt_irrefl, gt_iff_lt]
        · simp (maxSteps := 1000000) (disch := omega) only [push_cast, ↓wc_seq, ↓wc_condL, ↓wc_region, ↓wr_cons, ↓wr_consgL, ↓wr_nil, ↓wo_pickL, ↓wo_callf, ↓wc_skip, wo_some, opQ_eq, seqQ_normal, pickC_false, pickO_false, gstep_ft, gstep_skip, Nat.reduceAdd, Nat.reduceMul, Nat.reduceLT, Nat.reduceEqDiff, ↓reduceIte, planIds, hasExt, cntFs, idxFs, clnFs, ovlFs, List.contains_cons, List.contains_nil, List.any_nil, Nat.reduceBEq, setC, List.length_set, eq_self, Nat.zero_add, gt_iff_lt, planIds, hasExt, cntFs, idxFs, clnFs, ovlFs, List.contains_cons, List.contains_nil, List.any_nil, Nat.reduceBEq, Nat.reduceMul, Nat.reduceAdd, ↓reduceIte, hal, h0, h2, h3, h5, cr, Int.lt_irrefl, Int.natCast_zero, gt_iff_lt]
      · obtain ⟨rfl, rfl⟩ := hp he
        obtain ⟨y, rfl⟩ := hx.sl he
        obtain ⟨y', rfl⟩ := hx'.sl he
        have hpos : (0 : Int) < (cfgL l l.length).length := by
          have : 0 < (cfgL l l.length).length := List.length_pos_iff.2 he
          omega
        have cs := fun st S => Same_c (n := n) (fs := cfgL l l.length) (x := y) (y := y') (by omega) (by omega) st S
        simp (maxSteps := 1000000) (disch := omega) only [push_cast, ↓wc_seq, ↓wc_condL, ↓wc_region, ↓wr_cons, ↓wr_consgL, ↓wr_nil, ↓wo_pickL, ↓wo_callf, ↓wc_skip, wo_some, opQ_eq, seqQ_normal, pickC_false, pickO_true, pickO_false, gstep_tt, gstep_ff, Nat.reduceAdd, Nat.reduceMul, Nat.reduceLT, Nat.reduceEqDiff, ↓reduceIte, planIds, hasExt, cntFs, idxFs, clnFs, ovlFs, List.contains_cons, List.contains_nil, List.any_nil, Nat.reduceBEq, setC, List.length_set, eq_self, Nat.zero_add, gt_iff_lt, planIds, hasExt, cntFs, idxFs, clnFs, ovlFs, List.contains_cons, List.contains_nil, List.any_nil, Nat.reduceBEq, Nat.reduceMul, Nat.reduceAdd, ↓reduceIte, hal, h0, h2, h3, h5, h9, h10, cr, cs, hpos, eqp_stk0, List.length_map, gt_iff_lt]
    clear hal h0 h2 h3 h5 h9 h10 a
    rintro a T' ⟨rfl, hal, h2, h3, h5⟩
    have e6 : (T ++ [Ob.row 2 [[.nils, .nilm]]])[0]? = some (.row 4 [id.enc]) := get_old e5
    have z6 : (T ++ [Ob.row 2 [[.nils, .nilm]]])[T.length]? = some (.row 2 [[.nils, .nilm]]) := get_end
    simp (maxSteps := 1000000) (disch := omega) only [push_cast, ↓wc_seq, ↓wc_block, ↓wc_region, ↓wr_cons, ↓wr_nil, ↓wc_wl, wo_some, opQ_eq, seqQ_normal, Nat.reduceAdd, Nat.reduceMul, Nat.reducePow, Nat.reduceLT, Nat.reduceLeDiff, Nat.reduceEqDiff, ↓wo_build, ↓wo_buildSlice, evParts, ↓reduceIte, planIds, List.contains_cons, List.contains_nil, Nat.reduceBEq, setC, List.length_set, eq_self, Nat.zero_add, planIds, List.contains_cons, List.contains_nil, Nat.reduceBEq, Nat.reduceMul, Nat.reduceAdd, ↓reduceIte, hal]
    refine wl_loop (fun i a U => a.length = 141 ∧ a[2]? = some (.str cl) ∧ a[3]? = some (.int .i64 w) ∧ a[5]? = some (.loc 0 0 0) ∧ a[14]? = some (.sl 1 [[.nilp], [.loc T.length 0 0]] true) ∧ a[15]? = some (.int .i64 i) ∧ U[0]? = some (.row 4 [id.enc]) ∧ U[T.length]? = some (.row 2 [[.nils, .nilm]])) 2 ?_ (by omega) ?_
    · simp (maxSteps := 1000000) (disch := omega) only [push_cast, Nat.reduceLT, Nat.reduceEqDiff, ↓reduceIte, setC, List.length_set, eq_self, ↓reduceIte, hal, h2, h3, h5, Int.natCast_zero]
      exact ⟨e6, z6⟩
    clear hal h2 h3 h5 a
    clear e6 z6
    generalize T.length = z at *
    rintro i a U hi ⟨hal, h2, h3, h5, h14, h15, e0, z0⟩
    rcases Nat.lt_or_eq_of_le hi with hlt | rfl
    case inr => simp (maxSteps := 1000000) (disch := omega) only [push_cast, ↓wc_seq, ↓wc_condL, ↓wc_region, ↓wr_cons, ↓wr_nil, ↓wo_callf, ↓wc_exit, ↓wc_ret, wo_some, opQ_eq, seqQ_normal, seqQ_exit, blockQ_exit, iterQ_exit, retQ_ret, pickC_false, Nat.reduceAdd, Nat.reduceMul, Nat.reduceLT, Int.reduceAdd, ↓reduceIte, planIds, hasExt, cntFs, idxFs, clnFs, ovlFs, List.contains_cons, List.contains_nil, List.any_nil, Nat.reduceBEq, setC, List.length_set, eq_self, Nat.zero_add, planIds, hasExt, cntFs, idxFs, clnFs, ovlFs, List.contains_cons, List.contains_nil, List.any_nil, Nat.reduceBEq, Nat.reduceMul, Nat.reduceAdd, ↓reduceIte, hal, h15, cw, Int.lt_irrefl, Tryz.f12]
    obtain ⟨p, hp, hno⟩ : ∃ p, [[D.nilp], [.loc z 0 0]][i]? = some [p] ∧ NoneAt U p := by
      have : i = 0 ∨ i = 1 := by omega
      rcases this with rfl | rfl
      · exact ⟨_, rfl, .inl rfl⟩
      · exact ⟨_, rfl, .inr ⟨_, rfl, z0⟩⟩
    have hi2 : (i : Int) < 2 := by omega
    have app1 : ∀ (V J : List Ob) (j : Nat) (ob : Ob), V[j]? = some ob → (V ++ J)[j]? = some ob := fun V J j ob h => by rw [List.getElem?_append_left (lt_of_get h)]; exact h
    have lp := lidp id
    have sp : (D.sl 4 [id.enc] true).pure = true := by simp [D.pure, pureLL, pureL_cons, pureL_nil, Lid.enc]
    have c1 := Equip0 (n := n) (id := id) (by omega) hno false
    obtain ⟨J2, c2⟩ := Open0 (n := n) (id := id) (e := e320) (by omega) hno false
    have n2 := hno.app J2
    obtain ⟨J3, c3⟩ := Close0 (n := n) (id := id) (by omega) n2 false
    have n3 := n2.app J3
    obtain ⟨J4, c4⟩ := Sell0 (n := n) (di := .sl 4 [id.enc] true) (cl := cl) (w := w) sp (by omega) n3 false
    have n4 := n3.app J4
    obtain ⟨J5, c5⟩ := Cancel0 (n := n) (di := .sl 4 [id.enc] true) (cl := cl) (w := w) sp (by omega) n4 false
    have n5 := n4.app J5
    obtain ⟨J6, c6⟩ := Resize0 (n := n) (id := id) (e := e320) (by omega) n5 false
    have n6 := n5.app J6
    have c7 := Left0 (n := n) (id := id) (cl := cl) (by omega) n6 false
    have c8 := Free0 (n := n) (id := id) (cl := cl) (by omega) n6 false
    have c9 := Excess0 (n := n) (id := id) (by omega) n6 false
    obtain ⟨J10, c10⟩ := Counts0 (n := n) (id := id) (by omega) n6 false
    have n10 := n6.app J10
    obtain ⟨J11, c11⟩ := Legs0 (n := n) (by omega) n10 false
    have n11 := n10.app J11
    obtain ⟨J12, c12⟩ := Copy0 (n := n) (by omega) n11 false
    have p2 := app1 _ J2 _ _ e0
    have p3 := app1 _ J3 _ _ p2
    have p4 := app1 _ J4 _ _ p3
    have p5 := app1 _ J5 _ _ p4
    have p6 := app1 _ J6 _ _ p5
    have p10 := app1 _ J10 _ _ p6
    have p11 := app1 _ J11 _ _ p10
    have p12 := app1 _ J12 _ _ p11
    have q12 := app1 _ J12 _ _ (app1 _ J11 _ _ (app1 _ J10 _ _ (app1 _ J6 _ _ (app1 _ J5 _ _ (app1 _ J4 _ _ (app1 _ J3 _ _ (app1 _ J2 _ _ z0)))))))
    generalize hU2 : U ++ J2 = U2 at *
    generalize hU3 : U2 ++ J3 = U3 at *
    generalize hU4 : U3 ++ J4 = U4 at *
    generalize hU5 : U4 ++ J5 = U5 at *
    generalize hU6 : U5 ++ J6 = U6 at *
    generalize hU10 : U6 ++ J10 = U10 at *
    generalize hU11 : U10 ++ J11 = U11 at *
    generalize hU12 : U11 ++ J12 = U12 at *
    clear hU2 hU3 hU4 hU5 hU6 hU10 hU11 hU12
    have he320 : ByteArray.mk #[51, 50, 48] = e320 := rfl
    simp only [Lid.enc] at *
    simp (maxSteps := 1000000) (disch := omega) only [push_cast, ↓wc_seq, ↓wc_block, ↓wc_condL, ↓wc_region, ↓wr_cons, ↓wr_consgL, ↓wr_nil, ↓wo_pickL, ↓wo_callf, ↓wc_skip, wo_some, opQ_eq, seqQ_normal, blockQ_normal, iterQ_normal, pickC_true, pickC_false, pickO_false, gstep_ff, int_bne, Nat.reduceAdd, Nat.reduceMul, Nat.reducePow, Nat.reduceLT, Nat.reduceLeDiff, Nat.reduceEqDiff, ↓wo_buildSlice, evParts, ↓reduceIte, planIds, hasExt, cntFs, idxFs, clnFs, ovlFs, List.contains_cons, List.contains_nil, List.any_nil, Nat.reduceBEq, setC, List.length_set, eq_self, Int.natCast_nonneg, Int.toNat_natCast, Nat.zero_add, not_true_eq_false, planIds, hasExt, cntFs, idxFs, clnFs, ovlFs, List.contains_cons, List.contains_nil, List.any_nil, Nat.reduceBEq, Nat.reduceMul, Nat.reduceAdd, ↓reduceIte, hal, h2, h3, h5, h14, h15, hi2, hp, e0, c1, c2, c3, c4, c5, c6, c7, c8, c9, c10, c11, c12, p2, p5, p6, he320, eqp_stk0, str_eq, wrap_ok, Int.natCast_add, Int.natCast_one]
    exact ⟨hlt, p12, q12⟩
  obtain ⟨r, T, ho, rfl⟩ := this
  exact ⟨T, ho⟩
end Go.Proofs.YtlamgjbngblefaaGreatDoor.Dm
namespace Go.Proofs.YtlamgjbngblefaaGreatDoor
open Go Go.ChangeShapes Go.WideShapes Go.ChangeAt Go.RowKit Dm
set_option maxHeartbeats 1000000 in
set_option maxRecDepth 100000 in
theorem Lid_of_n {c : List D} (h : TC Tryz.prog 60 c) : ∃ r : Lid, CellR c r.enc ∧ r.Ok := by
  obtain ⟨hl, hf⟩ := h.toStruct Tryz.underlying60
  rw [cells_Lid] at hl
  obtain ⟨a0, a1, a2, a3, rfl⟩ : ∃ a0 a1 a2 a3, c = [a0, a1, a2, a3] := by
    clear hf h
    match c, hl with
    | [a0, a1, a2, a3], _ => exact ⟨a0, a1, a2, a3, rfl⟩
  simp only [List.mem_cons, List.not_mem_nil, or_false, forall_eq_or_imp, forall_eq, cells_gint, cells_gstr, List.drop_succ_cons, List.drop_zero, List.take_succ_cons, List.take_zero] at hf
  obtain ⟨h0, h1, h2, h3⟩ := hf
  obtain ⟨s4, e4, z4⟩ := h0.toStr Tryz.underlying9
  obtain ⟨s5, e5, z5⟩ := h1.toInt Tryz.underlying3
  obtain ⟨s6, e6, z6⟩ := h2.toInt Tryz.underlying3
  obtain ⟨s7, e7, z7⟩ := h3.toStr Tryz.underlying9
  simp only [List.cons.injEq, and_true] at e4 e5 e6 e7
  subst e4 e5 e6 e7
  refine ⟨⟨s4, s5, s6, s7⟩, ⟨rfl, fun j c c' hc hc' => ?_⟩, len_bd z4, int_bd z5, int_bd z6, len_bd z7, trivial⟩
  match j, hc, hc' with
  | 0, hc, hc' => cases hc; cases hc'; exact ⟨rfl, fun _ _ _ h => h⟩
  | 1, hc, hc' => cases hc; cases hc'; exact ⟨rfl, fun _ _ _ h => h⟩
  | 2, hc, hc' => cases hc; cases hc'; exact ⟨rfl, fun _ _ _ h => h⟩
  | 3, hc, hc' => cases hc; cases hc'; exact ⟨rfl, fun _ _ _ h => h⟩
  | j + 4, hc, hc' => simp at hc
theorem TVs.str1 {P : Program} {t : TypeId} (ht : P.underlying t = some .string) {ts : List TypeId} {xs : List D} (h : TVs P (t :: ts) xs) : ∃ s xs', xs = .str s :: xs' ∧ TVs P ts xs' := by
  cases h with
  | cons h hs =>
    rcases h with ⟨hg, -⟩ | ⟨-, h⟩
    · rw [aggT, ht] at hg; cases hg
    · cases h with
      | int h hw => rw [ht] at h; cases h
      | str h => exact ⟨_, _, rfl, hs⟩
      | bool h => rw [ht] at h; cases h
      | nils h => rw [ht] at h; cases h
      | sl h => rw [ht] at h; cases h
      | struct h => rw [ht] at h; cases h
      | array h => rw [ht] at h; cases h
theorem StockNone_walk {W : World} {xs : List D} {vs : Array Value} (ht : TVs Tryz.prog [22, 60, 9, 3] xs) (hv : VRs W ⟨Tryz.prog, fun _ => none, fun g => g < W.heap.size⟩ xs vs.toList) (hp : pureL xs = true) :
    Calls Tryz.prog 12 vs W fun e W' => e = .returned (.bool true) ∧ Below W.heap.size W W' := by
  obtain ⟨d1, _, rfl, h1, ht⟩ := ht.inv
  obtain ⟨d2, _, rfl, h2, ht⟩ := ht.inv
  obtain ⟨cl, ys, rfl, ht3⟩ := TVs.str1 Tryz.underlying9 ht
  obtain ⟨w, _, rfl, hw, ht⟩ := TVs.int1 Tryz.underlying3 ht3
  have := ht.inv0
  subst this
  obtain ⟨v1, v2, v3, v4, hvs⟩ : ∃ v1 v2 v3 v4, vs.toList = [v1, v2, v3, v4] := by
    have := hv.1
    match vs.toList, this with
    | [v1, v2, v3, v4], _ => exact ⟨v1, v2, v3, v4, rfl⟩
  rw [hvs] at hv
  have r1 := hv.head
  have r2 := hv.tail.head
  have r3 := hv.tail.tail.head
  have r4 := hv.tail.tail.tail.head
  obtain ⟨n, hn⟩ : ∃ n : Nat, 9223372036854775807 + 5000 ≤ n := ⟨_, Nat.le_refl _⟩
  obtain ⟨l, lx, z1, w1⟩ := Cfgs_front h1 hn
  obtain ⟨c, rfl, hc⟩ : ∃ c, d2 = .agg c ∧ TC Tryz.prog 60 c := by
    rcases h2 with ⟨-, c, e, hc⟩ | ⟨hg, -⟩
    · exact ⟨c, e, hc⟩
    · have : aggT Tryz.prog 60 = some true := by kernel_rfl
      rw [this] at hg
      cases hg
  obtain ⟨id, ha, -⟩ := Lid_of_n hc
  obtain ⟨T, hT⟩ := StockNone_d (n := n) (lx := lx) (id := id) (cl := cl) (w := w) (by omega) z1
  refine true_of_dcall envOk (I := fun g => g < W.heap.size) hT (fun g h => h) (fun g cs hg => by cases hg) ?_
  rw [hvs]
  refine VRs.cons (w1 _ _ _ r1) (VRs.cons ?_ (VRs.cons r3 (VRs.cons r4 VRs.nil)))
  obtain ⟨us, rfl, hus⟩ := r2.of_agg
  have := VR.agg_of (W := W) (C := ⟨Tryz.prog, fun _ => none, fun g => g < W.heap.size⟩) (cs := id.enc) (vs := us.toList) ⟨ha.1.trans hus.1, fun j d u hd hu => ?_⟩
  · change VR W ⟨Tryz.prog, fun _ => none, fun g => g < W.heap.size⟩ (.agg id.enc) (.agg us)
    simpa using this
  · obtain ⟨c', hc'⟩ : ∃ c', c[j]? = some c' := ⟨c[j]'(by have := (List.getElem?_eq_some_iff.1 hu).1; rw [hus.1]; exact this), by simp⟩
    exact (ha.2 j c' d hc' hd).2 _ _ _ (hus.2 j c' u hc' hu)
end Go.Proofs.YtlamgjbngblefaaGreatDoor
