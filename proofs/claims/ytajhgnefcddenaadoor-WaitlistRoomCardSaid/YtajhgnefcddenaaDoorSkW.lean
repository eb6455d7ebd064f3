/-
  The machine at the program's inventory: Open and Close.
-/
import Derived.Test.YtajhgnefcddenaaDoorSkP
namespace Go.Proofs.YtajhgnefcddenaaDoor.Dm
open Go Gw
set_option linter.unusedSimpArgs false
set_option linter.unusedSimpArgs false

theorem LegAt.keep' {S T : List Ob} {lab lab' : Lab} {o i p : Nat} {x : Leg} (h : LegAt S lab o i p x)
    (g : ∀ (z : Nat) (ob : Ob), S[z]? = some ob → (lab z = [o, 1, i] ∨ lab z = [o, 2, i] ∨ ∃ j, lab z = [o, 3, i, j]) → T[z]? = some ob ∧ lab' z = lab z) : LegAt T lab' o i p x := by
  obtain ⟨h1, d, h2, h3⟩ := h
  obtain ⟨g1, g2⟩ := g p _ h2 (.inl h1)
  refine ⟨by rw [g2, h1], d, g1, h3.keep fun y ob tl hy hl => ?_⟩
  rcases hl with hl | ⟨j, hl⟩
  · exact g y ob hy (.inr (.inl hl))
  · exact g y ob hy (.inr (.inr ⟨j, hl⟩))
theorem putM_none : ∀ {ps : List (D × D)} {k v : D}, lookM ps k = none → putM ps k v = ps ++ [(k, v)]
  | [], k, v, _ => rfl
  | (a, b) :: ps, k, v, h => by
    have hk : keyBeq a k = false := by
      cases e : keyBeq a k with
      | false => rfl
      | true => simp [lookM, e] at h
    have h' : lookM ps k = none := by simpa [lookM, hk] using h
    rw [putM, hk, if_neg (by simp), putM_none h']
    rfl
/-- The program's inventory lies there. -/
def SAt (S : List Ob) (lab : Lab) (o k : Nat) (s : Stk) : Prop := FreshL S lab ∧ ∃ m ps, StkAt S lab o kL (.loc k 0 0) s k m ps
theorem SAt.other {S T : List Ob} {lab lab' : Lab} {o o' k : Nat} {s : Stk} (h : SAt S lab o k s) (g : Step o' S lab T lab') (ho : o ≠ o') : SAt T lab' o k s := by
  obtain ⟨-, m, ps, h⟩ := h
  exact ⟨g.fresh, m, ps, h.keep (g.keepO ho)⟩
theorem SAt.push {S : List Ob} {lab : Lab} {o k : Nat} {s : Stk} (h : SAt S lab o k s) (J : List Ob) : SAt (S ++ J) lab o k s := by
  obtain ⟨hf, m, ps, h⟩ := h
  exact ⟨hf.push J, m, ps, h.push J⟩
theorem build_leg (c e : D) (a b : D) (h1 : a.one = true) (h2 : b.one = true) (q n : Nat) : dBuild Tryd.prog 85 [(0, .agg [a, b]), (1, .os q 0 n false)] = some (.agg [a, b, .os q 0 n false, .bool false]) := by
  have h3 : zeroT Tryd.prog 85 = some (.agg [.str (ByteArray.mk #[]), .nils, .nils, .bool false]) := by kernel_rfl
  have h4 : placesT Tryd.prog 85 = some [(0, 2), (2, 1), (3, 1)] := by kernel_rfl
  unfold dBuild
  rw [h3, h4]
  have h5 : (D.os q 0 n false).one = true := rfl
  simp [dFill, D.cells, setFrom, h1, h2, h5]
section
variable {S : List Ob} {lab : Lab} {o k m n : Nat} {s : Stk} {ps : List (D × D)} {id : Lid}
theorem StkAt.add {T : List Ob} {lab' : Lab} {p : Nat} {x : Leg} (h : StkAt S lab o kL (.loc k 0 0) s k m ps) (hT : ∀ (z : Nat) (ob : Ob), z < S.length → z ≠ m → S[z]? = some ob → T[z]? = some ob) (hlab : ∀ z, z < S.length → lab' z = lab z)
    (hm : T[m]? = some (.map kL (ps ++ [(.agg id.enc, .loc p 0 0)]))) (hx : LegAt T lab' o s.legs.length p x) : StkAt T lab' o kL (.loc k 0 0) { s with legs := s.legs ++ [(id, x)] } k m (ps ++ [(.agg id.enc, .loc p 0 0)]) where
  dat := rfl
  labk := by rw [hlab k (lt_of_get h.row), h.labk]
  labm := by rw [hlab m (lt_of_get h.map), h.labm]
  row := hT k _ (lt_of_get h.row) (fun e => by
    have h1 := h.labk
    rw [e, h.labm] at h1
    simp at h1) h.row
  map := hm
  len := by simp [h.len]
  leg i id' y hy := by
    rcases get_snoc hy with hy | ⟨rfl, e⟩
    · obtain ⟨p', h1, h2⟩ := h.leg i id' y hy
      refine ⟨p', by rw [List.getElem?_append_left (lt_of_get h1)]; exact h1, h2.keep' fun z ob hz hl => ⟨hT z ob (lt_of_get hz) (fun e => ?_) hz, hlab z (lt_of_get hz)⟩⟩
      have hm' := h.labm
      rw [← e] at hm'
      rcases hl with hl | hl | ⟨j, hl⟩ <;> rw [hl] at hm' <;> simp at hm'
    · cases e
      exact ⟨p, by rw [← h.len, List.getElem?_append_right (Nat.le_refl _), Nat.sub_self]; rfl, hx⟩
set_option maxHeartbeats 8000000 in
set_option maxRecDepth 100000 in
theorem SOpen_d (hn : 180 ≤ n) (h : SAt S lab o k s) (hs : s.l.length ≤ 100) (hc : CfgsOk s.l) (hid : id.Ok) (e : ByteArray) :
    WO (dcall E (n + 1) 13 [.loc k 0 0, .agg id.enc, .str e] S) fun d T => d = .int .i64 (s.open id e).1 ∧ ∃ lab', SAt T lab' o k (s.open id e).2 ∧ Step o S lab T lab' := by
  obtain ⟨hf, m, ps, h⟩ := h
  have hx := h.push [.row 4 [id.enc]]
  have cm := made_c (n := n) (by omega) hx.row
  have kl := keyOk_lid hid
  have ks := keys_lid
  have cf := Find_c (n := n) (l := s.l) (x := s.x) (e := e) (by omega) hs
  refine wo_dcall Tryd.func13 rfl (by decide) rfl 40 rfl (fun a hal ha => ?_)
  have h0 : a[0]? = some (.loc k 0 0) := ha 0 (by simp)
  have h1 : a[1]? = some (.agg id.enc) := ha 1 (by simp)
  have h2 : a[2]? = some (.str e) := ha 2 (by simp)
  clear ha
  unfold Stk.open
  rcases hx.look id with ⟨e1, e2⟩ | ⟨i, x, p, -, -, e1, e2, -, -⟩
  case inr =>
    rw [e1]
    have hxr := hx.row
    have hxm := hx.map
    simp only [Lid.enc] at h1 cm kl e2 hxr hxm
    simp (maxSteps := 1000000) (disch := omega) only [push_cast, ↓wc_seq, ↓wc_block, ↓wc_scope, ↓wc_condL, ↓wc_region, ↓wr_cons, ↓wr_consgL, ↓wr_nil, ↓wo_pickL, ↓wo_callf, ↓wc_exit, ↓wc_ret, ↓wc_skip, ↓wc_wl, wo_some, wo_none, wo_ite, opQ_eq, seqQ_normal, seqQ_exit, seqQ_ret, blockQ_normal, blockQ_exit, blockQ_ret, iterQ_normal, iterQ_exit, iterQ_ret, retQ_normal, retQ_ret, retQ_exit, pickC_true, pickC_false, pickO_true, pickO_false, gstep_tt, gstep_ff, gstep_tf, gstep_ft, gstep_skip, int_bne, int_beq, decide_not, Nat.reduceAdd, Nat.reduceMul, Nat.reduceSub, Nat.reducePow, Nat.reduceLT, Nat.reduceLeDiff, Nat.reduceEqDiff, Int.reduceToNat, Int.reduceAdd, Int.reduceSub, Int.reduceNeg, Int.reduceMul, Int.reduceLT, Int.reduceLE, Int.reduceEq, le_max, ↓wo_build, ↓wo_buildSlice, evParts, ↓reduceIte, planIds, hasExt, cntFs, idxFs, clnFs, ovlFs, List.contains_cons, List.contains_nil, List.any_cons, List.any_nil, Nat.reduceBEq, setC, List.length_set, decide_eq_true_eq, decide_eq_false_iff_not, true_implies, false_implies, forall_const, reduceCtorEq, eq_self, Int.natCast_nonneg, Int.toNat_natCast, Int.ofNat_lt, D.int.injEq, Option.some.injEq, Nat.zero_add, Nat.add_zero, bne_iff_ne, bne_eq_false_iff_eq, beq_iff_eq, beq_eq_false_iff_ne, gt_iff_lt, ne_eq, not_true_eq_false, not_false_eq_true, hal, h0, h1, h2, get_end, hxr, hxm, cm, kl, ks, e2, dUn, eqp_leg, Tryd.f13]
    exact ⟨lab, ⟨hf.push _, m, ps, hx⟩, Step.push hf _⟩
  rw [e1]
  rcases hfd : findF s.l e with _ | c
  · rw [hfd] at cf
    have hxr := hx.row
    have hxm := hx.map
    simp only [foundC] at cf
    simp only [Lid.enc] at h1 cm kl e2 hxr hxm
    simp (maxSteps := 1000000) (disch := omega) only [push_cast, ↓wc_seq, ↓wc_block, ↓wc_scope, ↓wc_condL, ↓wc_region, ↓wr_cons, ↓wr_consgL, ↓wr_nil, ↓wo_pickL, ↓wo_callf, ↓wc_exit, ↓wc_ret, ↓wc_skip, ↓wc_wl, wo_some, wo_none, wo_ite, opQ_eq, seqQ_normal, seqQ_exit, seqQ_ret, blockQ_normal, blockQ_exit, blockQ_ret, iterQ_normal, iterQ_exit, iterQ_ret, retQ_normal, retQ_ret, retQ_exit, pickC_true, pickC_false, pickO_true, pickO_false, gstep_tt, gstep_ff, gstep_tf, gstep_ft, gstep_skip, int_bne, int_beq, decide_not, Nat.reduceAdd, Nat.reduceMul, Nat.reduceSub, Nat.reducePow, Nat.reduceLT, Nat.reduceLeDiff, Nat.reduceEqDiff, Int.reduceToNat, Int.reduceAdd, Int.reduceSub, Int.reduceNeg, Int.reduceMul, Int.reduceLT, Int.reduceLE, Int.reduceEq, le_max, ↓wo_build, ↓wo_buildSlice, evParts, ↓reduceIte, planIds, hasExt, cntFs, idxFs, clnFs, ovlFs, List.contains_cons, List.contains_nil, List.any_cons, List.any_nil, Nat.reduceBEq, setC, List.length_set, decide_eq_true_eq, decide_eq_false_iff_not, true_implies, false_implies, forall_const, reduceCtorEq, eq_self, Int.natCast_nonneg, Int.toNat_natCast, Int.ofNat_lt, D.int.injEq, Option.some.injEq, Nat.zero_add, Nat.add_zero, bne_iff_ne, bne_eq_false_iff_eq, beq_iff_eq, beq_eq_false_iff_ne, gt_iff_lt, ne_eq, not_true_eq_false, not_false_eq_true, hal, h0, h1, h2, get_end, set_end, hxr, hxm, cm, kl, ks, e2, cf, dUn, eqp_leg0, Tryd.f13]
    exact ⟨lab, ⟨(hf.push _).push _, m, ps, hx.push _⟩, (Step.push hf _).trans (Step.push (hf.push _) _)⟩
  · rw [hfd] at cf
    have hcm : c ∈ s.l := by unfold findF at hfd; exact List.mem_of_find?_eq_some hfd
    have hco := hc.cfg c hcm
    have hx2 := hx.push [.row 2 [c.enc]]
    have hf2 : FreshL (S ++ [Ob.row 4 [id.enc]] ++ [Ob.row 2 [c.enc]]) lab := (hf.push _).push _
    obtain ⟨d, T, lab2, ce, ht, ⟨q, len, rfl⟩, hf3, hl3, hx3⟩ := empty_c (n := n) (o := o) (i := s.legs.length) (by omega) hco hf2
    have ht := ht.uncut
    have hxr := hx.row
    have hxm := hx.map
    have hxr2 := hx2.row
    have hxm3 := hx3 m _ hx2.map
    have hxr3 := hx3 k _ hx2.row
    have hid3 := hx3 S.length (.row 4 [id.enc]) (get_old get_end)
    have hpm := putM_none (v := .loc T.length 0 0) e2
    have hxm4 : ∀ ob, (T ++ [ob])[m]? = some (.map kL ps) := fun ob => get_old hxm3
    have hlen3 := hx3.len
    simp only [List.length_append, List.length_cons, List.length_nil] at hlen3
    have hmS := lt_of_get h.map
    have hlq : T.length < ((T ++ [Ob.row 4 [legCells ⟨c, false, emptyF c⟩ (.os q 0 len false)]]).set m (.map kL (ps ++ [(.agg id.enc, .loc T.length 0 0)]))).length := by simp
    have fin : ∃ lab', SAt ((T ++ [Ob.row 4 [legCells ⟨c, false, emptyF c⟩ (.os q 0 len false)]]).set m (.map kL (ps ++ [(.agg id.enc, .loc T.length 0 0)]))) lab' o k { s with legs := s.legs ++ [(id, ⟨c, false, emptyF c⟩)] } ∧ Step o S lab ((T ++ [Ob.row 4 [legCells ⟨c, false, emptyF c⟩ (.os q 0 len false)]]).set m (.map kL (ps ++ [(.agg id.enc, .loc T.length 0 0)]))) lab' := by
      have hold : ∀ (z : Nat) (ob : Ob), z < S.length → z ≠ m → S[z]? = some ob → ((T ++ [Ob.row 4 [legCells ⟨c, false, emptyF c⟩ (.os q 0 len false)]]).set m (.map kL (ps ++ [(.agg id.enc, .loc T.length 0 0)])))[z]? = some ob := fun z ob hz hne hzo => by
        rw [List.getElem?_set_ne (fun e => hne e.symm)]
        exact get_old (hx3 z ob (get_old (get_old hzo)))
      have hlb : ∀ z, z < S.length → setL lab2 T.length [o, 1, s.legs.length] z = lab z := fun z hz => by
        rw [setL_ne (by omega)]
        exact hl3 z (by rw [List.length_append, List.length_append]; omega)
      have hfr : FreshL ((T ++ [Ob.row 4 [legCells ⟨c, false, emptyF c⟩ (.os q 0 len false)]]).set m (.map kL (ps ++ [(.agg id.enc, .loc T.length 0 0)]))) (setL lab2 T.length [o, 1, s.legs.length]) := fun z hz => by
        rw [List.length_set, List.length_append, List.length_singleton] at hz
        rw [setL_ne (by omega)]
        exact hf3 z (by omega)
      have hmL : (T ++ [Ob.row 4 [legCells ⟨c, false, emptyF c⟩ (.os q 0 len false)]])[m]? = some (.map kL ps) := get_old hxm3
      refine ⟨setL lab2 T.length [o, 1, s.legs.length], ⟨hfr, m, _, h.add hold hlb (List.getElem?_set_self (lt_of_get hmL)) ⟨setL_self, _, ?_, ht.keep fun z ob tl hz hl => ?_⟩⟩, ⟨by rw [List.length_set, List.length_append]; omega, hfr, hlb, fun z hz hne => ?_⟩⟩
      · rw [List.getElem?_set_ne (by omega)]
        exact get_end
      · have hzT := lt_of_get hz
        rw [setL_ne (by omega), List.getElem?_set_ne]
        · exact ⟨get_old hz, rfl⟩
        · rintro rfl
          have h1 := hl3 m (by rw [List.length_append, List.length_append]; omega)
          rw [h.labm] at h1
          rcases hl with hl | ⟨j, hl⟩ <;> rw [hl] at h1 <;> simp at h1
      · have hne' : z ≠ m := by rintro rfl; rw [h.labm] at hne; simp at hne
        have := hold z (S[z]'hz) hz hne' (List.getElem?_eq_getElem hz)
        rw [this, List.getElem?_eq_getElem hz]
    simp only [foundC] at cf
    simp only [Lid.enc] at h1 cm kl e2 hxr hxm hxr2 hxm3 hxr3 hid3 hpm ce hf2
    simp only [Cfg.enc] at cf hxr2 ce
    simp (maxSteps := 1000000) (disch := omega) only [push_cast, ↓wc_seq, ↓wc_block, ↓wc_scope, ↓wc_condL, ↓wc_region, ↓wr_cons, ↓wr_consgL, ↓wr_nil, ↓wo_pickL, ↓wo_callf, ↓wc_exit, ↓wc_ret, ↓wc_skip, ↓wc_wl, wo_some, wo_none, wo_ite, opQ_eq, seqQ_normal, seqQ_exit, seqQ_ret, blockQ_normal, blockQ_exit, blockQ_ret, iterQ_normal, iterQ_exit, iterQ_ret, retQ_normal, retQ_ret, retQ_exit, pickC_true, pickC_false, pickO_true, pickO_false, gstep_tt, gstep_ff, gstep_tf, gstep_ft, gstep_skip, int_bne, int_beq, decide_not, Nat.reduceAdd, Nat.reduceMul, Nat.reduceSub, Nat.reducePow, Nat.reduceLT, Nat.reduceLeDiff, Nat.reduceEqDiff, Int.reduceToNat, Int.reduceAdd, Int.reduceSub, Int.reduceNeg, Int.reduceMul, Int.reduceLT, Int.reduceLE, Int.reduceEq, le_max, ↓wo_build, ↓wo_buildSlice, evParts, ↓reduceIte, planIds, hasExt, cntFs, idxFs, clnFs, ovlFs, List.contains_cons, List.contains_nil, List.any_cons, List.any_nil, Nat.reduceBEq, setC, List.length_set, decide_eq_true_eq, decide_eq_false_iff_not, true_implies, false_implies, forall_const, reduceCtorEq, eq_self, Int.natCast_nonneg, Int.toNat_natCast, Int.ofNat_lt, D.int.injEq, Option.some.injEq, Nat.zero_add, Nat.add_zero, bne_iff_ne, bne_eq_false_iff_eq, beq_iff_eq, beq_eq_false_iff_ne, gt_iff_lt, ne_eq, not_true_eq_false, not_false_eq_true, hal, h0, h1, h2, get_end, get_end0, get_end1, set_end, hxr, hxm, hxr2, cm, kl, ks, e2, cf, ce, dUn, eqp_leg0, build_leg, hid3, hxm3, hxm4, hxr3, hpm, Tryd.f13]
    exact fin
/-- One leg is changed. -/
theorem StkAt.upd {T : List Ob} {lab' : Lab} {i p : Nat} {x : Leg} {f : Leg → Leg} (h : StkAt S lab o kL (.loc k 0 0) s k m ps) (hnd : (s.legs.map (·.1)).Nodup) (hi : s.legs[i]? = some (id, x)) (hp : ps[i]? = some (.agg id.enc, .loc p 0 0))
    (hT : ∀ (z : Nat) (ob : Ob), S[z]? = some ob → lab z ≠ [o, 1, i] → lab z ≠ [o, 2, i] → (∀ j, lab z ≠ [o, 3, i, j]) → T[z]? = some ob) (hlab : ∀ z, z < S.length → lab' z = lab z) (hx : LegAt T lab' o i p (f x)) : StkAt T lab' o kL (.loc k 0 0) { s with legs := updL s.legs id f } k m ps where
  dat := rfl
  labk := by rw [hlab k (lt_of_get h.row), h.labk]
  labm := by rw [hlab m (lt_of_get h.map), h.labm]
  row := hT k _ h.row (by rw [h.labk]; simp) (by rw [h.labk]; simp) (by rw [h.labk]; simp)
  map := hT m _ h.map (by rw [h.labm]; simp) (by rw [h.labm]; simp) (by rw [h.labm]; simp)
  len := by rw [h.len, updL_len]
  leg i' id' y hy := by
    unfold updL at hy
    rw [List.getElem?_map] at hy
    obtain ⟨q, hq, e⟩ := Option.map_eq_some_iff.1 hy
    obtain ⟨p', h1, h2⟩ := h.leg i' q.1 q.2 hq
    by_cases hii : i' = i
    · subst hii
      rw [hi] at hq
      cases hq
      rw [if_pos rfl] at e
      cases e
      exact ⟨p, hp, hx⟩
    · have hne : q.1 ≠ id := by
        intro e'
        have h3 : (s.legs.map (·.1))[i']? = some id := by rw [List.getElem?_map, hq, ← e']; rfl
        have h4 : (s.legs.map (·.1))[i]? = some id := by rw [List.getElem?_map, hi]; rfl
        exact hii ((List.getElem?_inj (lt_of_get h3) hnd).1 (h3.trans h4.symm))
      rw [if_neg hne] at e
      subst e
      refine ⟨p', h1, h2.keep' fun z ob hz hl => ⟨hT z ob hz ?_ ?_ ?_, hlab z (lt_of_get hz)⟩⟩
      all_goals rcases hl with hl | hl | ⟨j, hl⟩ <;> rw [hl] <;> simp <;> omega
/-- The leg's own cells are written. -/
theorem StkAt.cell {i p q : Nat} {x : Leg} {f : Leg → Leg} (h : StkAt S lab o kL (.loc k 0 0) s k m ps) (hf : FreshL S lab) (hnd : (s.legs.map (·.1)).Nodup) (hi : s.legs[i]? = some (id, x)) (hp : ps[i]? = some (.agg id.enc, .loc p 0 0)) (hx : LegAt S lab o i p x)
    (hpS : S[p]? = some (.row 4 [legCells x (.os q 0 x.sold.length false)])) (hfx : (f x).sold = x.sold) :
    SAt (S.set p (.row 4 [legCells (f x) (.os q 0 x.sold.length false)])) lab o k { s with legs := updL s.legs id f } ∧ Step o S lab (S.set p (.row 4 [legCells (f x) (.os q 0 x.sold.length false)])) lab := by
  have hlp := hx.1
  have hst : Step o S lab (S.set p (.row 4 [legCells (f x) (.os q 0 x.sold.length false)])) lab := Step.set hf _ (by rw [hlp]; rfl)
  refine ⟨⟨hst.fresh, m, ps, h.upd hnd hi hp (fun z ob hz n1 n2 n3 => ?_) (fun _ _ => rfl) ⟨hlp, _, List.getElem?_set_self (lt_of_get hpS), ?_⟩⟩, hst⟩
  · rw [List.getElem?_set_ne]
    · exact hz
    · rintro rfl; exact n1 hlp
  · obtain ⟨-, d, h2, h3⟩ := hx
    rw [hpS] at h2
    have : d = .os q 0 x.sold.length false := by simpa [legCells] using h2.symm
    subst this
    rw [hfx]
    refine h3.keep fun z ob tl hz hl => ⟨?_, rfl⟩
    rw [List.getElem?_set_ne]
    · exact hz
    · rintro rfl
      rw [hlp] at hl
      rcases hl with hl | ⟨j, hl⟩ <;> simp at hl
end
end Go.Proofs.YtajhgnefcddenaaDoor.Dm
