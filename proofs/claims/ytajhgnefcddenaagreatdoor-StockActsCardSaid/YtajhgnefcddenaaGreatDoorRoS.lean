/-
  The reference's calls of an inventory: Say.
-/
import Derived.Test.YtajhgnefcddenaaGreatDoorRsD
namespace Go.Proofs.YtajhgnefcddenaaGreatDoor.Dm
open Go Gw
set_option linter.unusedSimpArgs false
set_option linter.unusedSimpArgs false

section
variable {S : List Ob} {lab : Lab} {o k n : Nat} {s : Stk} {rd : D} {rows : List RRow} {id : Lid} {ids : List Lid}
theorem CfgZ.mono' {a b : Nat} {c : Cfg} (h : CfgZ a c) (hab : a ≤ b) : CfgZ b c :=
  ⟨⟨by have := h.eq.1; omega, h.eq.2⟩, fun y hy => ⟨by have := (h.nm y hy).1; omega, (h.nm y hy).2⟩, fun y hy z hz => ⟨by have := (h.cl y hy z hz).1; omega, (h.cl y hy z hz).2⟩⟩
theorem gen_of {f : FuncId} {args : List D} {Q : D → List Ob → Prop} (hn : 1 ≤ n) (hm : E.mode f = .gen) (h : WO (dcall E (n - 1 + 1) f args S) Q) : ∃ d T, (∀ st, callD E (dcall E n) st S f args = some (d, T)) ∧ Q d T := by
  obtain ⟨d, T, ho, hq⟩ := h
  rw [show n - 1 + 1 = n by omega] at ho
  exact ⟨d, T, fun st => (callD_gen hm).trans ho, hq⟩
set_option maxHeartbeats 8000000 in
set_option maxRecDepth 100000 in
theorem Say_d {a : Cal} {lx : Bool} (hn : 220 ≤ n) (h : RAt S lab o k s) (ok : StkOk 9999 s) (hll : s.legs.length ≤ 100) (hs : s.l.length ≤ 100) (ha : a.Ok) :
    WO (dcall E (n + 1) 26 [.loc k 0 0, .sl 2 (s.l.map Cfg.enc) lx, .agg a.enc] S) fun r T => r = .int .i64 (doF s a).1 ∧ ∃ lab', RAt T lab' o k (doF s a).2 ∧ Step o S lab T lab' := by
  have hf := h.1
  have hx : RAt (S ++ [.row 6 [a.enc]]) lab o k s := by
    obtain ⟨hf, rd, rows, h⟩ := h
    exact ⟨hf.push _, rd, rows, h.push _⟩
  have hst : Step o S lab (S ++ [.row 6 [a.enc]]) lab := Step.push hf _
  obtain ⟨kd, l, mo, eq, cl, w⟩ := a
  obtain ⟨ha1, ha2, ha3, ha4, ha5, ha6, ha7⟩ := id ha
  dsimp only at ha1 ha2 ha3 ha4 ha5 ha6 ha7
  have ci := Id_c (n := n) (k := l) (by omega) ha2
  have ce := equip_c (n := n) (k := eq) (l := s.l) (lx := lx) (by omega) ha4
  have ck := Class_c (n := n) (k := cl) (by omega) ha5
  obtain ⟨di, hdi, cd⟩ := ids_c (n := n) (by omega) ha
  have t7 : (kd : Int).tmod 7 = ((kd % 7 : Nat) : Int) := tmod_nat kd 7
  have hlen := idsF_len ⟨kd, l, mo, eq, cl, w⟩
  obtain ⟨r, hr⟩ : ∃ r, kd % 7 = r := ⟨_, rfl⟩
  have hr7 : r < 7 := by rw [← hr]; exact Nat.mod_lt _ (by decide)
  unfold doF
  dsimp only
  rw [hr] at t7 ⊢
  refine wo_dcall Tryz.func26 rfl (by decide) rfl 61 rfl (fun a hal ha => ?_)
  have h0 : a[0]? = some (.loc k 0 0) := ha 0 (by simp)
  have h1 : a[1]? = some (.sl 2 (s.l.map Cfg.enc) lx) := ha 1 (by simp)
  have h2 : a[2]? = some (.agg (Cal.enc ⟨kd, l, mo, eq, cl, w⟩)) := ha 2 (by simp)
  clear ha
  simp only [Cal.enc] at h2 cd hx hst
  rcases (by omega : r = 0 ∨ r = 1 ∨ r = 5 ∨ r = 6 ∨ (r = 2 ∨ r = 3 ∨ r = 4)) with rfl | rfl | rfl | rfl | hr
  · obtain ⟨d, T, c1, rfl, lab', c2, c3⟩ := gen_of (n := n) (by omega) rfl (rsOpen_d (n := n - 1) (id := idF l) (by omega) hx hll hs ok.cfgs (equipF s.l eq))
    simp (maxSteps := 1000000) (disch := omega) only [push_cast, ↓wc_seq, ↓wc_block, ↓wc_condL, ↓wc_region, ↓wr_cons, ↓wr_nil, ↓wo_callf, ↓wc_ret, wo_some, opQ_eq, seqQ_normal, seqQ_ret, blockQ_ret, retQ_ret, pickC_true, int_beq, Nat.reduceAdd, Nat.reduceMul, Nat.reduceLT, Nat.reduceEqDiff, Int.reduceEq, ↓reduceIte, planIds, hasExt, cntFs, idxFs, clnFs, ovlFs, List.contains_cons, List.contains_nil, List.any_cons, List.any_nil, Nat.reduceBEq, setC, List.length_set, reduceCtorEq, eq_self, Nat.zero_add, Nat.add_zero, hal, h0, h1, h2, get_end, t7, ci, ce, c1, Int.natCast_zero, Tryz.f26]
    exact ⟨lab', c2, hst.trans c3⟩
  · obtain ⟨d, T, c1, rfl, lab', c2, c3⟩ := gen_of (n := n) (by omega) rfl (rClose_d (n := n - 1) (id := idF l) (by omega) hx ok.ids hll)
    simp (maxSteps := 1000000) (disch := omega) only [push_cast, ↓wc_seq, ↓wc_block, ↓wc_condL, ↓wc_region, ↓wr_cons, ↓wr_nil, ↓wo_callf, ↓wc_ret, wo_some, opQ_eq, seqQ_normal, seqQ_ret, blockQ_ret, retQ_ret, pickC_true, pickC_false, int_beq, Nat.reduceAdd, Nat.reduceMul, Nat.reduceLT, Nat.reduceEqDiff, Int.reduceEq, ↓reduceIte, planIds, hasExt, cntFs, idxFs, clnFs, ovlFs, List.contains_cons, List.contains_nil, List.any_cons, List.any_nil, Nat.reduceBEq, setC, List.length_set, reduceCtorEq, eq_self, Nat.zero_add, Nat.add_zero, hal, h0, h2, get_end, t7, ci, c1, Int.natCast_one, Tryz.f26]
    exact ⟨lab', c2, hst.trans c3⟩
  · obtain ⟨d, T, c1, rfl, lab', c2, c3⟩ := gen_of (n := n) (by omega) rfl (rCancel_d (n := n - 1) (by omega) hx ok hll hs (by omega) hdi (clsN cl) w)
    simp (maxSteps := 1000000) (disch := omega) only [push_cast, ↓wc_seq, ↓wc_block, ↓wc_condL, ↓wc_region, ↓wr_cons, ↓wr_nil, ↓wo_callf, ↓wc_ret, wo_some, opQ_eq, seqQ_normal, seqQ_ret, blockQ_ret, retQ_ret, pickC_true, pickC_false, int_beq, Nat.reduceAdd, Nat.reduceMul, Nat.reduceLT, Nat.reduceLeDiff, Nat.reduceEqDiff, Int.reduceEq, ↓reduceIte, planIds, hasExt, cntFs, idxFs, clnFs, ovlFs, List.contains_cons, List.contains_nil, List.any_cons, List.any_nil, Nat.reduceBEq, setC, List.length_set, reduceCtorEq, eq_self, Nat.zero_add, Nat.add_zero, hal, h0, h2, get_end, t7, cd, ck, c1, wrap_ok, Int.cast_ofNat_Int, Tryz.f26]
    exact ⟨lab', c2, hst.trans c3⟩
  · obtain ⟨d, T, c1, rfl, lab', c2, c3⟩ := gen_of (n := n) (by omega) rfl (rsResize_d (n := n - 1) (id := idF l) (by omega) hx ok hll hs (equipF s.l eq))
    simp (maxSteps := 1000000) (disch := omega) only [push_cast, ↓wc_seq, ↓wc_block, ↓wc_condL, ↓wc_region, ↓wr_cons, ↓wr_nil, ↓wo_callf, ↓wc_ret, wo_some, opQ_eq, seqQ_normal, seqQ_ret, blockQ_ret, retQ_ret, pickC_true, pickC_false, int_beq, Nat.reduceAdd, Nat.reduceMul, Nat.reduceLT, Nat.reduceEqDiff, Int.reduceEq, ↓reduceIte, planIds, hasExt, cntFs, idxFs, clnFs, ovlFs, List.contains_cons, List.contains_nil, List.any_cons, List.any_nil, Nat.reduceBEq, setC, List.length_set, reduceCtorEq, eq_self, Nat.zero_add, Nat.add_zero, hal, h0, h1, h2, get_end, t7, ci, ce, c1, Int.cast_ofNat_Int, Tryz.f26]
    exact ⟨lab', c2, hst.trans c3⟩
  · obtain ⟨d, T, c1, rfl, lab', c2, c3⟩ := gen_of (n := n) (by omega) rfl (rSell_d (n := n - 1) (by omega) hx ok hll hs (by omega) hdi (clsN cl) w)
    rcases hr with rfl | rfl | rfl
    · simp (maxSteps := 1000000) (disch := omega) only [push_cast, ↓wc_seq, ↓wc_block, ↓wc_condL, ↓wc_region, ↓wr_cons, ↓wr_nil, ↓wo_callf, ↓wc_ret, ↓wc_skip, wo_some, opQ_eq, seqQ_normal, blockQ_normal, retQ_ret, pickC_false, int_beq, Nat.reduceAdd, Nat.reduceMul, Nat.reduceLT, Nat.reduceLeDiff, Nat.reduceEqDiff, Int.reduceEq, ↓reduceIte, planIds, hasExt, cntFs, idxFs, clnFs, ovlFs, List.contains_cons, List.contains_nil, List.any_cons, List.any_nil, Nat.reduceBEq, setC, List.length_set, reduceCtorEq, eq_self, Nat.zero_add, Nat.add_zero, hal, h0, h2, get_end, t7, cd, ck, c1, wrap_ok, Int.cast_ofNat_Int, Tryz.f26]
      exact ⟨lab', c2, hst.trans c3⟩
    · simp (maxSteps := 1000000) (disch := omega) only [push_cast, ↓wc_seq, ↓wc_block, ↓wc_condL, ↓wc_region, ↓wr_cons, ↓wr_nil, ↓wo_callf, ↓wc_ret, ↓wc_skip, wo_some, opQ_eq, seqQ_normal, blockQ_normal, retQ_ret, pickC_false, int_beq, Nat.reduceAdd, Nat.reduceMul, Nat.reduceLT, Nat.reduceLeDiff, Nat.reduceEqDiff, Int.reduceEq, ↓reduceIte, planIds, hasExt, cntFs, idxFs, clnFs, ovlFs, List.contains_cons, List.contains_nil, List.any_cons, List.any_nil, Nat.reduceBEq, setC, List.length_set, reduceCtorEq, eq_self, Nat.zero_add, Nat.add_zero, hal, h0, h2, get_end, t7, cd, ck, c1, wrap_ok, Int.cast_ofNat_Int, Tryz.f26]
      exact ⟨lab', c2, hst.trans c3⟩
    · simp (maxSteps := 1000000) (disch := omega) only [push_cast, ↓wc_seq, ↓wc_block, ↓wc_condL, ↓wc_region, ↓wr_cons, ↓wr_nil, ↓wo_callf, ↓wc_ret, ↓wc_skip, wo_some, opQ_eq, seqQ_normal, blockQ_normal, retQ_ret, pickC_false, int_beq, Nat.reduceAdd, Nat.reduceMul, Nat.reduceLT, Nat.reduceLeDiff, Nat.reduceEqDiff, Int.reduceEq, ↓reduceIte, planIds, hasExt, cntFs, idxFs, clnFs, ovlFs, List.contains_cons, List.contains_nil, List.any_cons, List.any_nil, Nat.reduceBEq, setC, List.length_set, reduceCtorEq, eq_self, Nat.zero_add, Nat.add_zero, hal, h0, h2, get_end, t7, cd, ck, c1, wrap_ok, Int.cast_ofNat_Int, Tryz.f26]
      exact ⟨lab', c2, hst.trans c3⟩
theorem Say_c {a : Cal} {lx : Bool} (hn : 230 ≤ n) (h : RAt S lab o k s) (ok : StkOk 9999 s) (hll : s.legs.length ≤ 100) (hs : s.l.length ≤ 100) (ha : a.Ok) : ∃ T lab', (∀ st, callD E (dcall E n) st S 26 [.loc k 0 0, .sl 2 (s.l.map Cfg.enc) lx, .agg a.enc] = some (.int .i64 (doF s a).1, T)) ∧ RAt T lab' o k (doF s a).2 ∧ Step o S lab T lab' := by
  obtain ⟨d, T, c1, rfl, lab', c2, c3⟩ := gen_of (n := n) (by omega) rfl (Say_d (n := n - 1) (lx := lx) (by omega) h ok hll hs ha)
  exact ⟨T, lab', c1, c2, c3⟩
theorem RAt.other {S T : List Ob} {lab lab' : Lab} {o o' k : Nat} {s : Stk} (h : RAt S lab o k s) (g : Step o' S lab T lab') (ho : o ≠ o') : RAt T lab' o k s := by
  obtain ⟨-, rd, rows, h⟩ := h
  exact ⟨g.fresh, rd, rows, h.keep (g.keepO ho)⟩
end
end Go.Proofs.YtajhgnefcddenaaGreatDoor.Dm
