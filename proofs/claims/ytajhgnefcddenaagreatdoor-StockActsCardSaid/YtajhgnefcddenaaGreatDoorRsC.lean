/-
  The reference's inventory: New, Open, Excess.
-/
import Derived.Test.YtajhgnefcddenaaGreatDoorRsB
namespace Go.Proofs.YtajhgnefcddenaaGreatDoor.Dm
open Go Gw
set_option linter.unusedSimpArgs false
set_option linter.unusedSimpArgs false

theorem el_rrow : elemT Tryz.prog 93 = some 124 := by kernel_rfl
theorem sz_rrow : sizeT Tryz.prog 124 = some 7 := by kernel_rfl
theorem ze_rrow : zeroT Tryz.prog 124 = some (.agg [.str (ByteArray.mk #[]), .int .i64 0, .int .i64 0, .str (ByteArray.mk #[]), .str (ByteArray.mk #[]), .bool false, .nils]) := by kernel_rfl
theorem by_rrow : bytesT Tryz.prog 124 ≤ 100000 := of_decide_eq_true (by kernel_rfl)
section
variable {S : List Ob} {lab : Lab} {o k n : Nat} {s : Stk} {rd : D} {rows : List RRow} {id : Lid}
theorem rNew_c {l : List Cfg} {lx : Bool} (hn : 320 ≤ n) (hl : l.length ≤ 30) (hc : ∀ c ∈ l, Sm c) (hz : ∀ c ∈ l, CfgZ (n - 3) c) (hg : cfgL l l.length = []) (hf : FreshL S lab) :
    ∃ T lab' k, (∀ st, callD E (dcall E n) st S 11 [.sl 2 (l.map Cfg.enc) lx] = some (.tup [.loc k 0 0, .nils], T)) ∧ RAt T lab' o k ⟨l, lx, []⟩ ∧ Step o S lab T lab' := by
  obtain ⟨m, rfl⟩ : ∃ m, n = m + 1 := ⟨n - 1, by omega⟩
  obtain ⟨x, hx, cc⟩ := rCheck_c (n := m) (lx := lx) (by omega) hl hc hz
  rw [hg] at hx
  have : WO (dcall E (m + 1) 11 [.sl 2 (l.map Cfg.enc) lx] S) fun d T => d = .tup [.loc S.length 0 0, .nils] ∧ T = S ++ [.row 3 [[.bool true, .sl 2 (l.map Cfg.enc) lx, .nils]]] := by
    refine wo_dcall Tryz.func11 rfl (by decide) rfl 14 rfl (fun a hal ha => ?_)
    have h0 : a[0]? = some (.sl 2 (l.map Cfg.enc) lx) := ha 0 (by simp)
    clear ha
    rcases hx with ⟨rfl, -⟩ | ⟨y, rfl⟩
    · simp (maxSteps := 1000000) (disch := omega) only [push_cast, ↓wc_seq, ↓wc_condL, ↓wc_region, ↓wr_cons, ↓wr_nil, ↓wo_callf, ↓wc_ret, ↓wc_skip, wo_some, opQ_eq, seqQ_normal, retQ_ret, pickC_false, Nat.reduceAdd, Nat.reduceMul, Nat.reduceLT, Nat.reduceLeDiff, Nat.reduceEqDiff, Int.reduceLT, ↓wo_build, evParts, ↓reduceIte, planIds, hasExt, cntFs, idxFs, clnFs, ovlFs, List.contains_cons, List.contains_nil, List.any_cons, List.any_nil, Nat.reduceBEq, setC, List.length_set, reduceCtorEq, eq_self, Nat.zero_add, gt_iff_lt, hal, h0, cc, Tryz.f11]
    · simp (maxSteps := 1000000) (disch := omega) only [push_cast, ↓wc_seq, ↓wc_condL, ↓wc_region, ↓wr_cons, ↓wr_nil, ↓wo_callf, ↓wc_ret, ↓wc_skip, wo_some, opQ_eq, seqQ_normal, retQ_ret, pickC_false, Nat.reduceAdd, Nat.reduceMul, Nat.reduceLT, Nat.reduceLeDiff, Nat.reduceEqDiff, Int.reduceLT, ↓wo_build, evParts, ↓reduceIte, planIds, hasExt, cntFs, idxFs, clnFs, ovlFs, List.contains_cons, List.contains_nil, List.any_cons, List.any_nil, Nat.reduceBEq, setC, List.length_set, reduceCtorEq, eq_self, Nat.zero_add, gt_iff_lt, hal, h0, cc, Int.natCast_zero, Tryz.f11]
  obtain ⟨d, T, ho, rfl, rfl⟩ := this
  have s1 := Step.add (o := o) hf (.row 3 [[.bool true, .sl 2 (l.map Cfg.enc) lx, .nils]]) [o, 0]
  refine ⟨_, _, S.length, fun st => (callD_gen rfl).trans ho, ⟨s1.fresh, .nils, [], ?_⟩, s1⟩
  exact ⟨setL_self, get_end, .inl ⟨rfl, rfl⟩, fun r n e => (by cases e), rfl, fun i id x d h => by simp at h⟩
/-- A leg is added. -/
theorem RefAt.add {V : List Ob} {lab2 : Lab} {p : Nat} {x : Leg} {d : D} (h : RefAt S lab o s k rd rows) (hkT : k < S.length)
    (hold : ∀ (z : Nat) (ob : Ob), z < S.length → z ≠ k → (∀ n, rd ≠ .os z 0 n false) → S[z]? = some ob → V[z]? = some ob) (hlab : ∀ z, z < S.length → lab2 z = lab z)
    (hrow : V[k]? = some (.row 3 [[.bool true, .sl 2 (s.l.map Cfg.enc) s.x, .os p 0 (rows.length + 1) false]])) (hp : V[p]? = some (.row 7 ((rows ++ [(id, x, d)]).map rowE))) (hlp : lab2 p = [o, 4]) (ht : TabAt V lab2 o rows.length d x.sold) :
    RefAt V lab2 o { s with legs := s.legs ++ [(id, x)] } k (.os p 0 (rows.length + 1) false) (rows ++ [(id, x, d)]) where
  labk := by rw [hlab k hkT]; exact h.labk
  row := hrow
  gl := .inr ⟨p, by rw [List.length_append]; rfl, hp⟩
  own r n e := by injection e with e1; rw [← e1]; exact hlp
  legs := by rw [List.map_append, h.legs]; rfl
  tab i id' x' d' hi := by
    rcases get_snoc hi with hi | ⟨rfl, e⟩
    · refine (h.tab i id' x' d' hi).keep fun y ob tl hy hly => ?_
      have hyl := lt_of_get hy
      refine ⟨hold y ob hyl ?_ ?_ hy, hlab y hyl⟩
      · rintro rfl
        rw [h.labk] at hly
        rcases hly with hly | ⟨z, hly⟩ <;> simp at hly
      · intro n e
        have := h.own y n e
        rw [this] at hly
        rcases hly with hly | ⟨z, hly⟩ <;> simp at hly
    · cases e
      exact ht
set_option maxHeartbeats 8000000 in
set_option maxRecDepth 100000 in
theorem rsOpen_d (hn : 180 ≤ n) (h : RAt S lab o k s) (hll : s.legs.length ≤ 100) (hls : s.l.length ≤ 100) (hc : CfgsOk s.l) (e : ByteArray) :
    WO (dcall E (n + 1) 51 [.loc k 0 0, .agg id.enc, .str e] S) fun d T => d = .int .i64 (s.open id e).1 ∧ ∃ lab', RAt T lab' o k (s.open id e).2 ∧ Step o S lab T lab' := by
  obtain ⟨hf, rd, rows, h⟩ := h
  have hrl : rows.length ≤ 100 := by rw [← h.legs, List.length_map] at hll; exact hll
  have hx := h.push [.row 4 [id.enc]]
  have cm := rmade_c (n := n) (by omega) hx
  have ca := rat_c (n := n) (id := id) (by omega) hx hrl
  have hk := hx.row
  have cf := rFind_c (n := n) (l := s.l) (x := s.x) (e := e) (by omega) hls
  refine wo_dcall Tryz.func51 rfl (by decide) rfl 41 rfl (fun a hal ha => ?_)
  have h0 : a[0]? = some (.loc k 0 0) := ha 0 (by simp)
  have h1 : a[1]? = some (.agg id.enc) := ha 1 (by simp)
  have h2 : a[2]? = some (.str e) := ha 2 (by simp)
  clear ha
  unfold Stk.open
  rcases at_rows h id with ⟨g1, g2⟩ | ⟨i, x, d, g1, g2, g3⟩
  case inr =>
    rw [g1]
    rw [g2] at ca
    have hnn : (0 : Int) ≤ i := by omega
    simp only [Lid.enc] at h1 cm ca hk
    simp (maxSteps := 1000000) (disch := omega) only [push_cast, ↓wc_seq, ↓wc_condL, ↓wc_region, ↓wr_cons, ↓wr_nil, ↓wo_callf, ↓wc_ret, ↓wc_skip, wo_some, opQ_eq, seqQ_normal, seqQ_ret, retQ_ret, pickC_true, pickC_false, Nat.reduceAdd, Nat.reduceMul, Nat.reduceLT, Nat.reduceLeDiff, Nat.reduceEqDiff, ↓reduceIte, planIds, hasExt, cntFs, idxFs, clnFs, ovlFs, List.contains_cons, List.contains_nil, List.any_cons, List.any_nil, Nat.reduceBEq, setC, List.length_set, reduceCtorEq, eq_self, Nat.zero_add, hal, h0, h1, get_end, cm, ca, hnn, dUn, Tryz.f51]
    exact ⟨lab, ⟨hf.push _, rd, rows, hx⟩, Step.push hf _⟩
  rw [g1]
  rw [g2] at ca
  rcases hfd : findF s.l e with _ | c
  · rw [hfd] at cf
    simp only [foundC] at cf
    simp only [Lid.enc] at h1 cm ca hk
    simp (maxSteps := 1000000) (disch := omega) only [push_cast, ↓wc_seq, ↓wc_condL, ↓wc_region, ↓wr_cons, ↓wr_nil, ↓wo_callf, ↓wc_ret, ↓wc_skip, wo_some, opQ_eq, seqQ_normal, seqQ_ret, retQ_ret, pickC_true, pickC_false, Nat.reduceAdd, Nat.reduceMul, Nat.reduceLT, Nat.reduceLeDiff, Nat.reduceEqDiff, Int.reduceNeg, Int.reduceLE, ↓reduceIte, planIds, hasExt, cntFs, idxFs, clnFs, ovlFs, List.contains_cons, List.contains_nil, List.any_cons, List.any_nil, Nat.reduceBEq, setC, List.length_set, reduceCtorEq, eq_self, Nat.zero_add, hal, h0, h1, h2, get_end, set_end, cm, ca, hk, cf, dUn, ge_iff_le, Tryz.f51]
    exact ⟨lab, ⟨(hf.push _).push _, rd, rows, hx.push _⟩, (Step.push hf _).trans (Step.push (hf.push _) _)⟩
  rw [hfd] at cf
  have hcm : c ∈ s.l := by unfold findF at hfd; exact List.mem_of_find?_eq_some hfd
  have hco := hc.cfg c hcm
  have hx2 := hx.push [.row 2 [c.enc]]
  have hf2 : FreshL (S ++ [Ob.row 4 [id.enc]] ++ [Ob.row 2 [c.enc]]) lab := (hf.push _).push _
  obtain ⟨d, T, lab2, ce, ht, ⟨q, len, rfl⟩, hf3, hl3, hx3⟩ := rempty_c (n := n) (o := o) (i := rows.length) (by omega) hco hf2
  have ht := ht.uncut
  have hxk2 := hx2.row
  have hgT : GL 7 rowE T rd rows := hx2.gl.ext hx3
  obtain ⟨V, ha, hgV, hlenV, hkeepV, -⟩ := app_gl (enc := rowE) el_rrow sz_rrow ze_rrow rfl by_rrow hgT (by omega) (id, ⟨c, false, emptyF c⟩, .os q 0 len false)
  have hkT := hx3 k _ hx2.row
  have hid3 := hx3 S.length (.row 4 [id.enc]) (get_old get_end)
  have hnk : ∀ n, rd = .os k 0 n false → False := fun n e => by
    have := h.own _ _ e
    rw [h.labk] at this
    simp at this
  have hkV := hkeepV k _ hnk hkT
  have hlen3 := hx3.len
  simp only [List.length_append, List.length_cons, List.length_nil] at hlen3
  have hkS := lt_of_get h.row
  have hvk := lt_of_get hkV
  have fin : ∃ lab', RAt (V.set k (.row 3 [[.bool true, .sl 2 (s.l.map Cfg.enc) s.x, .os T.length 0 (rows.length + 1) false]])) lab' o k { s with legs := s.legs ++ [(id, ⟨c, false, emptyF c⟩)] } ∧ Step o S lab (V.set k (.row 3 [[.bool true, .sl 2 (s.l.map Cfg.enc) s.x, .os T.length 0 (rows.length + 1) false]])) lab' := by
    have hold : ∀ (z : Nat) (ob : Ob), z < S.length → z ≠ k → (∀ n, rd ≠ .os z 0 n false) → S[z]? = some ob → (V.set k (.row 3 [[.bool true, .sl 2 (s.l.map Cfg.enc) s.x, .os T.length 0 (rows.length + 1) false]]))[z]? = some ob := fun z ob hz hne hnr hzo => by
      rw [List.getElem?_set_ne (fun e => hne e.symm)]
      exact hkeepV z ob (fun n e => hnr n e) (hx3 z ob (get_old (get_old hzo)))
    have hlb : ∀ z, z < S.length → setL lab2 T.length [o, 4] z = lab z := fun z hz => by
      rw [setL_ne (by omega)]
      exact hl3 z (by rw [List.length_append, List.length_append]; omega)
    have hfr : FreshL (V.set k (.row 3 [[.bool true, .sl 2 (s.l.map Cfg.enc) s.x, .os T.length 0 (rows.length + 1) false]])) (setL lab2 T.length [o, 4]) := fun z hz => by
      rw [List.length_set, hlenV] at hz
      rw [setL_ne (by omega)]
      exact hf3 z (by omega)
    obtain ⟨kk, e1, hVp⟩ : ∃ kk, D.os T.length 0 (rows.length + 1) false = .os kk 0 (rows ++ [(id, (⟨c, false, emptyF c⟩ : Leg), D.os q 0 len false)]).length false ∧ V[kk]? = some (.row 7 ((rows ++ [(id, (⟨c, false, emptyF c⟩ : Leg), D.os q 0 len false)]).map rowE)) := by
      rcases hgV with ⟨e, -⟩ | h
      · cases e
      · exact h
    injection e1 with e1
    subst e1
    have hTk : T.length ≠ k := by omega
    refine ⟨setL lab2 T.length [o, 4], ⟨hfr, _, _, h.add hkS hold hlb (List.getElem?_set_self hvk) (by rw [List.getElem?_set_ne hTk.symm]; exact hVp) setL_self (ht.keep fun y ob tl hy hly => ?_)⟩, ⟨by rw [List.length_set, hlenV]; omega, hfr, hlb, fun z hz hne => ?_⟩⟩
    · have hyT := lt_of_get hy
      rw [setL_ne (by omega)]
      refine ⟨?_, rfl⟩
      rw [List.getElem?_set_ne]
      · refine hkeepV y ob (fun n e => ?_) hy
        have h1 := h.own y n e
        have hyS : y < S.length := by
          rcases h.gl with ⟨e', -⟩ | ⟨r', e', hr'⟩
          · rw [e'] at e; cases e
          · rw [e'] at e; injection e with e2; rw [← e2]; exact lt_of_get hr'
        rw [hl3 y (by rw [List.length_append, List.length_append]; omega), h1] at hly
        rcases hly with hly | ⟨z, hly⟩ <;> simp at hly
      · rintro rfl
        rw [hl3 k (by rw [List.length_append, List.length_append]; omega), h.labk] at hly
        rcases hly with hly | ⟨z, hly⟩ <;> simp at hly
    · rw [hold z (S[z]'hz) hz ?_ ?_ (List.getElem?_eq_getElem hz), List.getElem?_eq_getElem hz]
      · rintro rfl; rw [h.labk] at hne; simp at hne
      · intro n e
        have := h.own z n e
        rw [this] at hne
        simp at hne
  simp only [foundC] at cf
  simp only [Lid.enc] at h1 cm ca hk hxk2 hid3 ce ha hkT hkV
  simp only [Cfg.enc] at cf hxk2 ce
  simp only [rowE] at ha
  rw [(findF_mem hfd).2] at ha
  simp (maxSteps := 1000000) (disch := omega) only [push_cast, ↓wc_seq, ↓wc_condL, ↓wc_region, ↓wr_cons, ↓wr_nil, ↓wo_callf, ↓wc_ret, ↓wc_skip, wo_some, opQ_eq, seqQ_normal, retQ_ret, pickC_false, Nat.reduceAdd, Nat.reduceMul, Nat.reducePow, Nat.reduceLT, Nat.reduceLeDiff, Nat.reduceEqDiff, Int.reduceNeg, Int.reduceLE, ↓wo_build, ↓wo_buildSlice, evParts, ↓reduceIte, planIds, hasExt, cntFs, idxFs, clnFs, ovlFs, List.contains_cons, List.contains_nil, List.any_cons, List.any_nil, Nat.reduceBEq, setC, List.length_set, reduceCtorEq, eq_self, Nat.zero_add, hal, h0, h1, h2, get_end, get_end0, set_end, cm, ca, hk, hxk2, cf, ce, dUn, ha, hkV, ge_iff_le, Tryz.f51]
  exact fin
set_option maxHeartbeats 8000000 in
set_option maxRecDepth 100000 in
theorem rsExcess_c (hn : 190 ≤ n) (h : RefAt S lab o s k rd rows) (ok : StkOk 9999 s) (hl : rows.length ≤ 100) (hls : s.l.length ≤ 100) (st : Bool) :
    callD E (dcall E n) st S 76 [.loc k 0 0, .agg id.enc] = some (.int .i64 (s.excess id), S) := by
  obtain ⟨q, rfl⟩ : ∃ q, n = q + 1 := ⟨n - 1, by omega⟩
  have hT := h.push [.row 4 [id.enc]]
  have ca := rat_c (n := q) (id := id) (by omega) hT hl
  have hk := hT.row
  have : WO (dcall E (q + 1) 76 [.loc k 0 0, .agg id.enc] S) fun r T => r = .int .i64 (s.excess id) ∧ ExtS S T := by
    refine wo_dcall Tryz.func76 rfl (by decide) rfl 44 rfl (fun a hal ha => ?_)
    have h0 : a[0]? = some (.loc k 0 0) := ha 0 (by simp)
    have h1 : a[1]? = some (.agg id.enc) := ha 1 (by simp)
    clear ha
    simp only [Lid.enc] at h1 ca hk hT
    unfold Stk.excess
    rcases at_rows h id with ⟨g1, g2⟩ | ⟨i, x, d, g1, g2, g3⟩
    · rw [g1]
      rw [g2] at ca
      simp (maxSteps := 1000000) (disch := omega) only [push_cast, ↓wc_seq, ↓wc_condL, ↓wc_region, ↓wr_cons, ↓wr_nil, ↓wo_callf, ↓wc_ret, wo_some, opQ_eq, seqQ_normal, seqQ_ret, retQ_ret, pickC_true, Nat.reduceAdd, Nat.reduceMul, Nat.reduceLT, Nat.reduceLeDiff, Nat.reduceEqDiff, Int.reduceNeg, Int.reduceLT, ↓reduceIte, planIds, hasExt, cntFs, idxFs, clnFs, ovlFs, List.contains_cons, List.contains_nil, List.any_cons, List.any_nil, Nat.reduceBEq, setC, List.length_set, reduceCtorEq, eq_self, Nat.zero_add, hal, h0, h1, get_end, ca, Tryz.f76]
      exact ExtS.app
    rw [g1]
    rw [g2] at ca
    obtain ⟨r, rfl, -, hr⟩ := hT.os g3
    have hlt := lt_of_get g3
    have hnn : ¬ (i : Int) < 0 := by omega
    have hok := ok.get g1
    have hl4 := hok.cfg.l2
    have cf := rconfig_c (n := q) (by omega) hT g3 hok.find hls
    obtain ⟨tq, tr, tes, rfl, -, ht1, htl, ht2⟩ := hT.tab i id x d g3
    dsimp only
    rw [excL_eq hok]
    simp only [Cfg.enc] at cf
    simp (maxSteps := 1000000) (disch := omega) only [push_cast, ↓wc_seq, ↓wc_block, ↓wc_condL, ↓wc_region, ↓wr_cons, ↓wr_nil, ↓wo_callf, ↓wc_skip, ↓wc_wl, wo_some, opQ_eq, seqQ_normal, pickC_false, Nat.reduceAdd, Nat.reduceMul, Nat.reduceLT, Nat.reduceLeDiff, Nat.reduceEqDiff, ↓reduceIte, planIds, hasExt, cntFs, idxFs, clnFs, ovlFs, List.contains_cons, List.contains_nil, List.any_cons, List.any_nil, Nat.reduceBEq, setC, List.length_set, reduceCtorEq, eq_self, Nat.zero_add, hal, h0, h1, get_end, set_end, ca, hnn, cf]
    have hSV : ExtS S (S ++ [Ob.row 4 [[.str id.c, .int .i64 id.n, .int .i64 id.d, .str id.f]]]) := ExtS.app
    generalize hV : S ++ [Ob.row 4 [[.str id.c, .int .i64 id.n, .int .i64 id.d, .str id.f]]] = V at *
    have hcU : (V ++ [Ob.row 2 [[.str x.cfg.equip, .sl 4 (x.cfg.cabs.map Cab.enc) x.cfg.cabsx]]])[V.length]? = some (.row 2 [[.str x.cfg.equip, .sl 4 (x.cfg.cabs.map Cab.enc) x.cfg.cabsx]]) := get_end
    have hxU : ExtS V (V ++ [Ob.row 2 [[.str x.cfg.equip, .sl 4 (x.cfg.cabs.map Cab.enc) x.cfg.cabsx]]]) := ExtS.app
    generalize hU : V ++ [Ob.row 2 [[.str x.cfg.equip, .sl 4 (x.cfg.cabs.map Cab.enc) x.cfg.cabsx]]] = U at *
    refine wl_loop (fun c a T => a.length = 44 ∧ a[0]? = some (.loc k 0 0) ∧ a[5]? = some (.int .i64 i) ∧ a[6]? = some (.int .i64 (excT x c)) ∧ a[7]? = some (.loc V.length 0 0) ∧ a[8]? = some (.int .i64 c) ∧ T = U) x.cfg.cabs.length ?_ (by omega) ?_
    · simp (maxSteps := 1000000) (disch := omega) only [push_cast, Nat.reduceLT, Nat.reduceEqDiff, ↓reduceIte, setC, List.length_set, reduceCtorEq, eq_self, hal, h0, Int.natCast_zero, excT]
    clear hal h0 h1 a
    rintro c a T hc ⟨hal, h0, h5, h6, h7, h8, rfl⟩
    rcases Nat.lt_or_eq_of_le hc with hlc | rfl
    case inr =>
      simp (maxSteps := 1000000) (disch := omega) only [push_cast, ↓wc_seq, ↓wc_condL, ↓wc_region, ↓wr_cons, ↓wr_nil, ↓wc_exit, ↓wc_ret, wo_some, opQ_eq, seqQ_normal, seqQ_exit, blockQ_exit, iterQ_exit, retQ_ret, pickC_false, Nat.reduceAdd, Nat.reduceMul, Nat.reduceLT, Nat.reduceEqDiff, ↓reduceIte, planIds, List.contains_cons, List.contains_nil, Nat.reduceBEq, setC, List.length_set, eq_self, Nat.zero_add, hal, h6, h7, h8, Int.lt_irrefl, hcU, List.length_map, Tryz.f76]
      exact hSV.trans hxU
    have hlcc : (c : Int) < x.cfg.cabs.length := by omega
    obtain ⟨y, hy⟩ : ∃ y, x.cfg.cabs[c]? = some y := ⟨x.cfg.cabs[c], by simp [hlc]⟩
    obtain ⟨row, hrow, hrl, hyo⟩ := leg_sizes hok hy
    have hcs : c < x.sold.length := lt_of_get hrow
    obtain ⟨f1, -, f3⟩ := ht2 c row hrow
    have hkT := hxU _ _ hk
    have hrT := hxU _ _ hr
    have htT := hxU _ _ ht1
    have hfT := hxU _ _ f3
    have ce := rExcess_c (n := q) (by omega) hyo (hok.rng (by omega) hrow) hrl hfT
    have hexc : excT x (c + 1) = max (excT x c) (excF y row row.length) := by rw [excT, hy, hrow]
    have hmax : (if excT x c < excF y row row.length then excF y row row.length else excT x c) = excT x (c + 1) := by rw [hexc]; split <;> omega
    simp only [Cab.enc] at ce
    simp (maxSteps := 1000000) (disch := omega) only [push_cast, ↓wc_seq, ↓wc_block, ↓wc_condL, ↓wc_region, ↓wr_cons, ↓wr_nil, ↓wo_callf, ↓wc_skip, wo_some, opQ_eq, seqQ_normal, blockQ_normal, iterQ_normal, pickC_true, Nat.reduceAdd, Nat.reduceMul, Nat.reduceLT, Nat.reduceLeDiff, Nat.reduceEqDiff, ↓reduceIte, planIds, hasExt, cntFs, idxFs, clnFs, ovlFs, List.contains_cons, List.contains_nil, List.any_cons, List.any_nil, Nat.reduceBEq, setC, List.length_set, reduceCtorEq, eq_self, Int.natCast_nonneg, Int.toNat_natCast, Int.ofNat_lt, Nat.zero_add, hal, h0, h5, h6, h7, h8, hlc, hlcc, hcU, hy, hkT, hrT, hlt, g3, htT, f1, hcs, ce, hmax, List.length_map, List.getElem?_map, Cab.enc, wrap_ok, Int.natCast_add, Int.natCast_one]
  obtain ⟨_, T, ho, rfl, hx⟩ := this
  exact callD_obsS rfl rfl ho hx rfl
end
end Go.Proofs.YtajhgnefcddenaaGreatDoor.Dm
