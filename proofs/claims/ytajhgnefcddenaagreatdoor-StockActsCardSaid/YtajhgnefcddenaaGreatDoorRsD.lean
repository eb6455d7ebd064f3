/-
  The reference's inventory: Resize.
-/
import Derived.Test.YtajhgnefcddenaaGreatDoorRsC
import Derived.Test.YtajhgnefcddenaaGreatDoorWpt
import Derived.Test.YtajhgnefcddenaaGreatDoorWq
namespace Go.Proofs.YtajhgnefcddenaaGreatDoor.Dm
open Go Gw
set_option linter.unusedSimpArgs false
set_option linter.unusedSimpArgs false

/-! Plans with places laid ahead. -/
/-! What the reference's table without sales adds to a store: the store's length alone matters. -/
def ewid (c : Cfg) (j : Nat) : Nat := ((c.cabs[j]?).map fun y : Cab => y.cls.length).getD 0
def ecells (b : Nat) (c : Cfg) : Nat → List (List D)
  | 0 => []
  | j + 1 => ecells b c j ++ [[.os (b + 1 + 2 * j) 0 (ewid c j) false]]
def ekill (j : Nat) (l : List Ob) : List Ob := if j = 0 then l else l.set (2 * j) .dead
def ejF (b : Nat) (c : Cfg) : Nat → List Ob
  | 0 => [.row 2 [c.enc]]
  | j + 1 => ekill j (ejF b c j) ++ [.row 1 ((List.replicate (ewid c j) (0 : Int)).map encZ)] ++ [.row 1 (ecells b c (j + 1))]
theorem ekill_len (j : Nat) (l : List Ob) : (ekill j l).length = l.length := by unfold ekill; split <;> simp
theorem ejF_len (b : Nat) (c : Cfg) : ∀ j, (ejF b c j).length = 1 + 2 * j
  | 0 => rfl
  | j + 1 => by
    rw [ejF, List.length_append, List.length_append, ekill_len, ejF_len b c j]
    simp; omega
theorem ejF_zero (b : Nat) (c : Cfg) : ∀ j, (ejF b c j)[0]? = some (.row 2 [c.enc])
  | 0 => rfl
  | j + 1 => by
    rw [ejF, List.append_assoc, List.getElem?_append_left (by rw [ekill_len, ejF_len]; omega)]
    unfold ekill
    split
    · exact ejF_zero b c j
    · rw [List.getElem?_set_ne (by omega)]; exact ejF_zero b c j
theorem ejF_last (b : Nat) (c : Cfg) (j : Nat) : (ejF b c (j + 1))[2 * (j + 1)]? = some (.row 1 (ecells b c (j + 1))) := by
  rw [ejF, List.getElem?_append_right (by rw [List.length_append, ekill_len, ejF_len]; simp; omega), List.length_append, ekill_len, ejF_len]
  have : 2 * (j + 1) - (1 + 2 * j + [Ob.row 1 ((List.replicate (ewid c j) (0 : Int)).map encZ)].length) = 0 := by simp; omega
  rw [this]; rfl
theorem ecells_len (b : Nat) (c : Cfg) : ∀ j, (ecells b c j).length = j
  | 0 => rfl
  | j + 1 => by rw [ecells, List.length_append, ecells_len b c j]; rfl
theorem app_tab0 {S : List Ob} {x : D} : dAppend Tryz.prog S 118 118 .nils (.sl 1 [[x]] true) = some (.os S.length 0 1 false, S ++ [.row 1 [[x]]]) := by
  have hb : 1 * bytesT Tryz.prog 128 ≤ 140737488355328 := Nat.le_trans (Nat.mul_le_mul_left 1 by_tab) (by decide)
  have hm : ((1 : Nat) ≤ maxLen) = True := le_max (by omega)
  rw [Nat.one_mul] at hb
  simp only [dAppend, el_tab, sz_tab, ze_tab, D.cells, srcOf, List.length_cons, List.length_nil, Nat.zero_add, Nat.one_mul, hm, hb, and_self, Nat.succ_ne_zero, ↓reduceIte]
theorem app_tab1 {S : List Ob} {k : Nat} {es : List (List D)} {x : D} (hk : S[k]? = some (.row 1 es)) (hl : es.length ≤ 100000) : dAppend Tryz.prog S 118 118 (.os k 0 es.length false) (.sl 1 [[x]] true) = some (.os S.length 0 (es.length + 1) false, S.set k .dead ++ [.row 1 (es ++ [[x]])]) := by
  have hb : (es.length + 1) * bytesT Tryz.prog 128 ≤ 140737488355328 := Nat.le_trans (Nat.mul_le_mul (Nat.succ_le_succ hl) by_tab) (by decide)
  have hm : (es.length + 1 ≤ maxLen) = True := le_max (by omega)
  simp only [dAppend, el_tab, sz_tab, ze_tab, D.cells, srcOf, hk, Nat.zero_add, Nat.le_refl, and_self, List.drop_zero, List.take_length, List.length_cons, List.length_nil, hm, hb, Nat.succ_ne_zero, ↓reduceIte]
theorem set_in {α : Type} {l m : List α} {i : Nat} {x : α} : (l ++ m).set (l.length + i) x = l ++ m.set i x := by
  rw [List.set_append_right _ _ (by omega)]
  congr 2; omega
theorem get_in {α : Type} {l m : List α} {i : Nat} {x : α} (h : m[i]? = some x) : (l ++ m)[l.length + i]? = some x := by
  rw [List.getElem?_append_right (by omega), Nat.add_sub_cancel_left]; exact h
set_option maxHeartbeats 4000000 in
set_option maxRecDepth 100000 in
theorem rempty_j {n : Nat} {c : Cfg} (hn : 110 ≤ n) (hc : CfgOk c) (S : List Ob) : dcall E (n + 1) 107 [.agg c.enc] S = some (.os (S.length + 2 * c.cabs.length) 0 c.cabs.length false, S ++ ejF S.length c c.cabs.length) := by
  have hl4 := hc.l2
  have hl1 := hc.l1
  refine eq_of_wo ?_
  refine wo_dcall Tryz.func107 rfl (by decide) rfl 24 rfl (fun a hal ha => ?_)
  have h0 : a[0]? = some (.agg c.enc) := ha 0 (by simp)
  clear ha
  simp only [Cfg.enc] at h0
  simp (maxSteps := 1000000) (disch := omega) only [push_cast, ↓wc_seq, ↓wc_block, ↓wc_region, ↓wr_cons, ↓wr_nil, ↓wc_wl, wo_some, opQ_eq, seqQ_normal, Nat.reduceAdd, Nat.reduceMul, ↓reduceIte, planIds, List.contains_cons, List.contains_nil, Nat.reduceBEq, eq_self, Nat.zero_add, h0]
  refine wl_loop (fun k a T => a.length = 24 ∧ a[1]? = some (.loc S.length 0 0) ∧ a[4]? = some (.int .i64 k) ∧ T = S ++ ejF S.length c k ∧ a[3]? = some (if k = 0 then .nils else .os (S.length + 2 * k) 0 k false)) c.cabs.length ?_ (by omega) ?_
  · simp (maxSteps := 1000000) (disch := omega) only [push_cast, Nat.reduceLT, Nat.reduceEqDiff, ↓reduceIte, setC, List.length_set, eq_self, hal, Int.natCast_zero]
    rfl
  clear hal h0 a
  rintro k a T hk ⟨hal, h1, h4, rfl, h3⟩
  have hT0 : (S ++ ejF S.length c k)[S.length]? = some (.row 2 [[.str c.equip, .sl 4 (c.cabs.map Cab.enc) c.cabsx]]) := get_in (i := 0) (ejF_zero S.length c k)
  rcases Nat.lt_or_eq_of_le hk with hlt | rfl
  case inr =>
    rw [if_neg (by omega)] at h3
    simp (maxSteps := 1000000) (disch := omega) only [push_cast, ↓wc_seq, ↓wc_condL, ↓wc_region, ↓wr_cons, ↓wr_nil, ↓wc_exit, ↓wc_ret, wo_some, opQ_eq, seqQ_normal, seqQ_exit, blockQ_exit, iterQ_exit, retQ_ret, pickC_false, Nat.reduceAdd, Nat.reduceMul, Nat.reduceLT, Nat.reduceEqDiff, ↓reduceIte, planIds, List.contains_cons, List.contains_nil, Nat.reduceBEq, setC, List.length_set, eq_self, Nat.zero_add, hal, h1, h3, h4, Int.lt_irrefl, hT0, List.length_map, Tryz.f107]
  have hltc : (k : Int) < c.cabs.length := by omega
  obtain ⟨y, hy⟩ : ∃ y, c.cabs[k]? = some y := ⟨c.cabs[k], by simp [hlt]⟩
  have hyo := hc.cab y (List.mem_of_getElem? hy)
  have hl26 := hyo.l2
  have hwid : ewid c k = y.cls.length := by unfold ewid; rw [hy]; rfl
  have mk := mkI' (S := S ++ ejF S.length c k) (n := y.cls.length) (by omega)
  have hL : (S ++ ejF S.length c k).length = S.length + 1 + 2 * k := by rw [List.length_append, ejF_len]; omega
  have hL2 : (S ++ ejF S.length c k ++ [Ob.row 1 ((List.replicate y.cls.length (0 : Int)).map encZ)]).length = S.length + 2 * (k + 1) := by rw [List.length_append, hL, List.length_singleton]; omega
  rw [hL] at mk
  have step : ∃ d, a[3]? = some d ∧ dAppend Tryz.prog (S ++ ejF S.length c k ++ [Ob.row 1 ((List.replicate y.cls.length (0 : Int)).map encZ)]) 118 118 d (.sl 1 [[.os (S.length + 1 + 2 * k) 0 y.cls.length false]] true) = some (.os (S.length + 2 * (k + 1)) 0 (k + 1) false, S ++ ejF S.length c (k + 1)) := by
    refine ⟨_, h3, ?_⟩
    cases k with
    | zero =>
      rw [if_pos rfl, app_tab0, hL2]
      have e0 : ejF S.length c 1 = ejF S.length c 0 ++ [.row 1 ((List.replicate y.cls.length (0 : Int)).map encZ)] ++ [.row 1 [[.os (S.length + 1 + 2 * 0) 0 y.cls.length false]]] := by rw [← hwid]; rfl
      rw [e0]
      simp
    | succ k =>
      have hg : (S ++ ejF S.length c (k + 1) ++ [Ob.row 1 ((List.replicate y.cls.length (0 : Int)).map encZ)])[S.length + 2 * (k + 1)]? = some (.row 1 (ecells S.length c (k + 1))) := get_old (get_in (ejF_last S.length c k))
      have := app_tab1 (x := .os (S.length + 1 + 2 * (k + 1)) 0 y.cls.length false) hg (by rw [ecells_len]; omega)
      rw [ecells_len, hL2] at this
      rw [if_neg (by omega), this]
      have e1 : ejF S.length c (k + 1 + 1) = (ejF S.length c (k + 1)).set (2 * (k + 1)) .dead ++ [.row 1 ((List.replicate y.cls.length (0 : Int)).map encZ)] ++ [.row 1 (ecells S.length c (k + 1) ++ [[.os (S.length + 1 + 2 * (k + 1)) 0 y.cls.length false]])] := by rw [← hwid]; rfl
      rw [e1]
      rw [List.set_append_left _ _ (by rw [List.length_append, ejF_len]; omega), set_in]
      simp [List.append_assoc]
  obtain ⟨d, h3', ha⟩ := step
  clear h3
  simp (maxSteps := 1000000) (disch := omega) only [push_cast, ↓wc_seq, ↓wc_block, ↓wc_condL, ↓wc_region, ↓wr_cons, ↓wr_nil, ↓wc_skip, wo_some, opQ_eq, seqQ_normal, blockQ_normal, iterQ_normal, pickC_true, Nat.reduceAdd, Nat.reduceMul, Nat.reducePow, Nat.reduceLT, Nat.reduceLeDiff, Nat.reduceEqDiff, ↓wo_buildSlice, evParts, ↓reduceIte, planIds, List.contains_cons, List.contains_nil, Nat.reduceBEq, setC, List.length_set, reduceCtorEq, eq_self, Int.natCast_nonneg, Int.toNat_natCast, Nat.zero_add, hal, h1, h4, h3', hlt, hltc, hy, hT0, mk, ha, List.length_map, List.getElem?_map, Cab.enc, wrap_ok, Int.natCast_add, Int.natCast_one]
theorem set_mid {α : Type} {l m : List α} {x y : α} : (l ++ [x] ++ m).set l.length y = l ++ [y] ++ m := by
  rw [List.append_assoc, List.append_assoc]
  simp
theorem get_mid {α : Type} {l m : List α} {x : α} : (l ++ [x] ++ m)[l.length]? = some x := by
  rw [List.append_assoc]
  exact get_in (i := 0) rfl
def plan78 : Plan := steps [0, 1, 3] (.both (steps [2] (.both (steps [4] (.step 5 (steps [6, 7] .done))) (.step 5 (steps [4, 6, 7] .done)))) (.step 5 (steps [2, 4, 6, 7] .done)))
theorem ze_cfg : zeroT Tryz.prog 87 = some (.agg [.str (ByteArray.mk #[]), .nils]) := by kernel_rfl
section
variable {S : List Ob} {lab : Lab} {o k n : Nat} {s : Stk} {rd : D} {rows : List RRow} {id : Lid}
/-- One leg has a new table. -/
theorem RefAt.redo {V : List Ob} {lab2 : Lab} {i r : Nat} {x : Leg} {d d' : D} {f : Leg → Leg} (h : RefAt S lab o s k rd rows) (hnd : (s.legs.map (·.1)).Nodup) (hw : rows[i]? = some (id, x, d)) (hrd : rd = .os r 0 rows.length false)
    (hold : ∀ (z : Nat) (ob : Ob), S[z]? = some ob → z ≠ r → lab z ≠ [o, 2, i] → (∀ j, lab z ≠ [o, 3, i, j]) → V[z]? = some ob) (hlab : ∀ z, z < S.length → lab2 z = lab z) (hr : V[r]? = some (.row 7 ((rows.map rowE).set i (rowE (id, f x, d'))))) (ht : TabAt V lab2 o i d' (f x).sold) :
    RefAt V lab2 o { s with legs := updL s.legs id f } k rd (rows.set i (id, f x, d')) := by
  obtain ⟨r', e, hl, hrS⟩ := h.os hw
  have : r' = r := by rw [hrd] at e; injection e with e1; exact e1.symm
  subst this
  have hrk : k ≠ r' := by rintro rfl; rw [h.labk] at hl; simp at hl
  refine ⟨by rw [hlab k (lt_of_get h.row)]; exact h.labk, hold k _ h.row hrk (by rw [h.labk]; simp) (by rw [h.labk]; simp), .inr ⟨r', by rw [List.length_set]; exact hrd, by rw [List.map_set]; exact hr⟩, fun p n e' => ?_, ?_, fun j id' x' d2 hj => ?_⟩
  · have := h.own p n e'
    rw [hlab p ?_]
    · exact this
    · rw [hrd] at e'; injection e' with e2; rw [← e2]; exact lt_of_get hrS
  · have hlg := h.legs
    rw [← hlg] at hnd
    show _ = updL s.legs id f
    rw [← hlg]
    exact upd_rows hnd hw
  · rw [List.getElem?_set] at hj
    split at hj
    · rename_i e2; subst e2
      rw [if_pos (lt_of_get hw)] at hj
      cases hj
      exact ht
    · rename_i e2
      refine (h.tab j id' x' d2 hj).keep fun y ob tl hy hly => ⟨hold y ob hy ?_ ?_ ?_, hlab y (lt_of_get hy)⟩
      · rintro rfl
        rw [hl] at hly
        rcases hly with hly | ⟨z, hly⟩ <;> simp at hly
      · intro e3
        rw [e3] at hly
        rcases hly with hly | ⟨z, hly⟩ <;> simp at hly
        exact e2 hly
      · intro z e3
        rw [e3] at hly
        rcases hly with hly | ⟨z', hly⟩ <;> simp at hly
        exact e2 hly.1
set_option maxHeartbeats 16000000 in
set_option maxRecDepth 100000 in
theorem rsResize_d (hn : 210 ≤ n) (h : RAt S lab o k s) (ok : StkOk 9999 s) (hll : s.legs.length ≤ 100) (hls : s.l.length ≤ 100) (e : ByteArray) :
    WO (dcall E (n + 1) 73 [.loc k 0 0, .agg id.enc, .str e] S) fun r T => r = .int .i64 (s.resize id e).1 ∧ ∃ lab', RAt T lab' o k (s.resize id e).2 ∧ Step o S lab T lab' := by
  obtain ⟨hf, rd, rows, h⟩ := h
  have hrl : rows.length ≤ 100 := by rw [← h.legs, List.length_map] at hll; exact hll
  have hx := h.push [.row 4 [id.enc]]
  have cm := rmade_c (n := n) (by omega) hx
  have ca := rat_c (n := n) (id := id) (by omega) hx hrl
  have hk := hx.row
  have cf := rFind_c (n := n) (l := s.l) (x := s.x) (e := e) (by omega) hls
  refine wo_dcall Tryz.func73 rfl (by decide) rfl 130 rfl (fun a hal ha => ?_)
  have h0 : a[0]? = some (.loc k 0 0) := ha 0 (by simp)
  have h1 : a[1]? = some (.agg id.enc) := ha 1 (by simp)
  have h2 : a[2]? = some (.str e) := ha 2 (by simp)
  clear ha
  unfold Stk.resize
  rcases at_rows h id with ⟨g1, g2⟩ | ⟨i, x, d0, g1, g2, g3⟩
  · rw [g1]
    rw [g2] at ca
    rcases hfd : findF s.l e with _ | b
    · rw [hfd] at cf
      simp only [foundC] at cf
      simp only [Lid.enc] at h1 cm ca hk
      simp (maxSteps := 1000000) (disch := omega) only [push_cast, ↓wc_seq, ↓wc_condL, ↓wc_region, ↓wr_cons, ↓wr_consgL, ↓wr_nil, ↓wo_pickL, ↓wo_callf, ↓wc_ret, ↓wc_skip, wo_some, opQ_eq, seqQ_normal, seqQ_ret, retQ_ret, pickC_true, pickC_false, pickO_true, gstep_tf, Nat.reduceAdd, Nat.reduceMul, Nat.reduceLT, Nat.reduceLeDiff, Nat.reduceEqDiff, Int.reduceNeg, Int.reduceLT, ↓reduceIte, planIds, hasExt, cntFs, idxFs, clnFs, ovlFs, List.contains_cons, List.contains_nil, List.any_cons, List.any_nil, Nat.reduceBEq, setC, List.length_set, reduceCtorEq, eq_self, Nat.zero_add, hal, h0, h1, h2, get_end, set_end, cm, ca, hk, cf, dUn, Tryz.f73]
      exact ⟨lab, ⟨(hf.push _).push _, rd, rows, hx.push _⟩, (Step.push hf _).trans (Step.push (hf.push _) _)⟩
    · rw [hfd] at cf
      simp only [foundC, Cfg.enc] at cf
      simp only [Lid.enc] at h1 cm ca hk
      simp (maxSteps := 1000000) (disch := omega) only [push_cast, ↓wc_seq, ↓wc_condL, ↓wc_region, ↓wr_cons, ↓wr_consgL, ↓wr_nil, ↓wo_pickL, ↓wo_callf, ↓wc_ret, ↓wc_skip, wo_some, opQ_eq, seqQ_normal, seqQ_ret, retQ_ret, pickC_true, pickC_false, pickO_true, gstep_tf, Nat.reduceAdd, Nat.reduceMul, Nat.reduceLT, Nat.reduceLeDiff, Nat.reduceEqDiff, Int.reduceNeg, Int.reduceLT, ↓reduceIte, planIds, hasExt, cntFs, idxFs, clnFs, ovlFs, List.contains_cons, List.contains_nil, List.any_cons, List.any_nil, Nat.reduceBEq, setC, List.length_set, reduceCtorEq, eq_self, Nat.zero_add, hal, h0, h1, h2, get_end, set_end, cm, ca, hk, cf, dUn, Tryz.f73]
      exact ⟨lab, ⟨(hf.push _).push _, rd, rows, hx.push _⟩, (Step.push hf _).trans (Step.push (hf.push _) _)⟩
  rw [g1]
  rw [g2] at ca
  have hnn : ¬ (i : Int) < 0 := by omega
  rcases hfd : findF s.l e with _ | b
  · rw [hfd] at cf
    simp only [foundC] at cf
    simp only [Lid.enc] at h1 cm ca hk
    simp (maxSteps := 1000000) (disch := omega) only [push_cast, ↓wc_seq, ↓wc_condL, ↓wc_region, ↓wr_cons, ↓wr_consgL, ↓wr_nil, ↓wo_pickL, ↓wo_callf, ↓wc_ret, ↓wc_skip, wo_some, opQ_eq, seqQ_normal, seqQ_ret, retQ_ret, pickC_true, pickC_false, pickO_false, gstep_ff, Nat.reduceAdd, Nat.reduceMul, Nat.reduceLT, Nat.reduceLeDiff, Nat.reduceEqDiff, ↓reduceIte, planIds, hasExt, cntFs, idxFs, clnFs, ovlFs, List.contains_cons, List.contains_nil, List.any_cons, List.any_nil, Nat.reduceBEq, setC, List.length_set, reduceCtorEq, eq_self, Nat.zero_add, hal, h0, h1, h2, get_end, set_end, cm, ca, hnn, hk, cf, dUn, Tryz.f73]
    exact ⟨lab, ⟨(hf.push _).push _, rd, rows, hx.push _⟩, (Step.push hf _).trans (Step.push (hf.push _) _)⟩
  rw [hfd] at cf
  dsimp only
  have hcm : b ∈ s.l := by unfold findF at hfd; exact List.mem_of_find?_eq_some hfd
  have hco := ok.cfgs.cfg b hcm
  have hok := ok.get g1
  have hcl4 := hok.cfg.l2
  have hsm := hok.cfg.sm
  have hx4 := hx.push [.row 2 [b.enc]]
  have hxD := fun ob : Ob => hx4.push [ob]
  have cfD := fun ob : Ob => rconfig_c (n := n) (by omega) (hxD ob) g3 hok.find hls
  have hf4 : FreshL (S ++ [Ob.row 4 [id.enc]] ++ [Ob.row 2 [b.enc]]) lab := (hf.push _).push _
  have hf5 := hf4.push [Ob.row 2 [x.cfg.enc]]
  obtain ⟨d', T, lab2, ce, ht, -, hf3, hl3, hx3⟩ := rempty_c (n := n) (o := o) (i := i) (by omega) hco hf5
  have cj := fun V : List Ob => rempty_j (n := n - 1) (by omega) hco V
  rw [show n - 1 + 1 = n by omega] at cj
  have cjD : ∀ st V, callD E (dcall E n) st V 107 [.agg b.enc] = some (.os (V.length + 2 * b.cabs.length) 0 b.cabs.length false, V ++ ejF V.length b b.cabs.length) := fun st V => callD_extS rfl (cj V) ExtS.app
  have ce := Option.some.inj ((cjD true _).symm.trans (ce true))
  injection ce with ce1 ce2
  subst ce1
  subst ce2
  have hmemS : S.length < (S ++ [Ob.row 4 [id.enc]] ++ [Ob.row 2 [b.enc]]).length := by simp
  simp only [Lid.enc] at h1 cm ca hk hx4 hxD cfD hf4 hf5 cjD ht hf3 hl3 hx3
  simp only [foundC, Cfg.enc] at cf cfD cjD ht hf3 hl3 hx3 hf5 hx4 hf4
  rw [wc_asc, wc_asc, wc_asc, wc_asc]
  refine wc_scut (fun a T => T = S ++ [Ob.row 4 [[.str id.c, .int .i64 id.n, .int .i64 id.d, .str id.f]]] ++ [Ob.row 2 [[.str b.equip, .sl 4 (b.cabs.map Cab.enc) b.cabsx]]] ∧ a.length = 130 ∧ a[0]? = some (.loc k 0 0) ∧ a[2]? = some (.str e) ∧ a[7]? = some (.int .i64 i) ∧ a[8]? = some (.loc (S ++ [Ob.row 4 [[.str id.c, .int .i64 id.n, .int .i64 id.d, .str id.f]]]).length 0 0)) ?_ ?_
  · simp (maxSteps := 1000000) (disch := omega) only [push_cast, ↓wc_seq, ↓wc_condL, ↓wc_region, ↓wr_cons, ↓wr_consgL, ↓wr_nil, ↓wo_pickL, ↓wo_callf, ↓wc_skip, wo_some, opQ_eq, seqQ_normal, pickC_false, pickO_false, gstep_ff, Nat.reduceAdd, Nat.reduceMul, Nat.reduceLT, Nat.reduceLeDiff, Nat.reduceEqDiff, ↓reduceIte, planIds, hasExt, cntFs, idxFs, clnFs, ovlFs, List.contains_cons, List.contains_nil, List.any_cons, List.any_nil, Nat.reduceBEq, setC, List.length_set, reduceCtorEq, eq_self, Nat.zero_add, hal, h0, h1, h2, get_end, set_end, cm, ca, hnn, hk, cf, dUn]
  clear hal h0 h1 h2 a
  rintro a T ⟨rfl, hal, h0, h2, h7, h8⟩
  have hSV : ExtS S (S ++ [Ob.row 4 [[.str id.c, .int .i64 id.n, .int .i64 id.d, .str id.f]]]) := ExtS.app
  have hVl : (S ++ [Ob.row 4 [[.str id.c, .int .i64 id.n, .int .i64 id.d, .str id.f]]]).length = S.length + 1 := by simp
  generalize hV : S ++ [Ob.row 4 [[.str id.c, .int .i64 id.n, .int .i64 id.d, .str id.f]]] = V at *
  have hVX : ExtS V (V ++ [Ob.row 2 [[.str b.equip, .sl 4 (b.cabs.map Cab.enc) b.cabsx]]]) := ExtS.app
  have hXl : (V ++ [Ob.row 2 [[.str b.equip, .sl 4 (b.cabs.map Cab.enc) b.cabsx]]]).length = V.length + 1 := by simp
  have hb4 : (V ++ [Ob.row 2 [[.str b.equip, .sl 4 (b.cabs.map Cab.enc) b.cabsx]]])[V.length]? = some (.row 2 [[.str b.equip, .sl 4 (b.cabs.map Cab.enc) b.cabsx]]) := get_end
  generalize hX : V ++ [Ob.row 2 [[.str b.equip, .sl 4 (b.cabs.map Cab.enc) b.cabsx]]] = X at *
  have hb8 := fun ob : Ob => get_old (J := [ob]) hb4
  have cjB : ∀ st ob, callD E (dcall E n) st (X ++ [ob]) 107 [.agg [.str b.equip, .sl 4 (b.cabs.map Cab.enc) b.cabsx]] = some (.os (X.length + 1 + 2 * b.cabs.length) 0 b.cabs.length false, X ++ [ob] ++ ejF (X.length + 1) b b.cabs.length) := fun st ob => by
    have := cjD st (X ++ [ob])
    rw [List.length_append, List.length_singleton] at this
    exact this
  rw [List.length_append, List.length_singleton] at ht hf3 hl3 hx3
  generalize ejF (X.length + 1) b b.cabs.length = J at *
  generalize X.length + 1 + 2 * b.cabs.length = q at *
  refine wc_scut (fun a T => T = X ++ [Ob.row 2 [[.str x.cfg.equip, .sl 4 (x.cfg.cabs.map Cab.enc) x.cfg.cabsx]]] ++ J ∧ a.length = 130 ∧ a[0]? = some (.loc k 0 0) ∧ a[2]? = some (.str e) ∧ a[7]? = some (.int .i64 i) ∧ a[8]? = some (.loc V.length 0 0) ∧ a[10]? = some (.loc X.length 0 0) ∧ a[11]? = some (.os q 0 b.cabs.length false)) ?_ ?_
  · rw [wc_planL (L := [5]) (p := plan78) rfl]
    unfold plan78
    rw [wp_pickL rfl]
    simp only [opsOf, List.filterMap_cons, List.filterMap_nil, List.getElem?_toArray, List.getElem?_cons_zero, List.getElem?_cons_succ]
    simp (maxSteps := 1000000) (disch := omega) only [push_cast, ↓wr_cons, ↓wr_nil, wo_some, opQ_eq, Nat.reduceAdd, Nat.reduceLeDiff, Nat.reduceEqDiff, ↓reduceIte, setC, Nat.zero_add, h0, h7, h8, hb8]
    apply wp_bothL
    · rw [wp_pickL rfl]
      simp only [opsOf, List.filterMap_cons, List.filterMap_nil, List.getElem?_toArray, List.getElem?_cons_zero, List.getElem?_cons_succ]
      simp (maxSteps := 1000000) (disch := omega) only [push_cast, ↓wr_cons, ↓wr_nil, ↓wo_callf, wo_some, opQ_eq, Nat.reduceLT, Nat.reduceEqDiff, ↓reduceIte, hasExt, cntFs, idxFs, clnFs, ovlFs, List.contains_nil, List.any_cons, List.any_nil, Nat.reduceBEq, setC, List.length_set, eq_self, hal, cfD]
      apply wp_bothL
      · rw [wp_pickL rfl]
        simp only [opsOf, List.filterMap_cons, List.filterMap_nil, List.getElem?_toArray, List.getElem?_cons_zero, List.getElem?_cons_succ]
        simp (maxSteps := 1000000) (disch := omega) only [push_cast, ↓wr_cons, ↓wr_nil, ↓wo_callf, wo_some, opQ_eq, Nat.reduceLT, Nat.reduceEqDiff, ↓reduceIte, hasExt, cntFs, idxFs, clnFs, ovlFs, List.contains_nil, List.any_cons, List.any_nil, Nat.reduceBEq, setC, List.length_set, eq_self, hal, cjB]
        rw [wp_slot rfl rfl ze_cfg rfl (get_mid (l := X)), wp_pickL rfl]
        simp only [opsOf, List.filterMap_cons, List.filterMap_nil, List.getElem?_toArray, List.getElem?_cons_zero, List.getElem?_cons_succ]
        simp (maxSteps := 1000000) (disch := omega) only [push_cast, ↓wr_cons, ↓wr_nil, wo_some, opQ_eq, Nat.reduceAdd, Nat.reduceLT, Nat.reduceLeDiff, Nat.reduceEqDiff, ↓reduceIte, setC, List.length_set, eq_self, Nat.zero_add, Nat.add_zero, hal, set_mid, get_mid, wp_doneL, set_sort]
        exact ⟨rfl, rfl⟩
      · rw [wp_slot rfl rfl ze_cfg rfl (get_end (l := X)), wp_pickL rfl]
        simp only [opsOf, List.filterMap_cons, List.filterMap_nil, List.getElem?_toArray, List.getElem?_cons_zero, List.getElem?_cons_succ]
        simp (maxSteps := 1000000) (disch := omega) only [push_cast, ↓wr_cons, ↓wr_nil, ↓wo_callf, wo_some, opQ_eq, Nat.reduceAdd, Nat.reduceLT, Nat.reduceLeDiff, Nat.reduceEqDiff, ↓reduceIte, hasExt, cntFs, idxFs, clnFs, ovlFs, List.contains_nil, List.any_cons, List.any_nil, Nat.reduceBEq, setC, List.length_set, eq_self, Nat.zero_add, Nat.add_zero, hal, set_end, cjB, set_mid, get_mid, wp_doneL, set_sort]
      · exact ⟨rfl, rfl⟩
    · rw [wp_slot rfl rfl ze_cfg rfl (get_end (l := X)), wp_pickL rfl]
      simp only [opsOf, List.filterMap_cons, List.filterMap_nil, List.getElem?_toArray, List.getElem?_cons_zero, List.getElem?_cons_succ]
      simp (maxSteps := 1000000) (disch := omega) only [push_cast, ↓wr_cons, ↓wr_nil, ↓wo_callf, wo_some, opQ_eq, Nat.reduceAdd, Nat.reduceLT, Nat.reduceLeDiff, Nat.reduceEqDiff, ↓reduceIte, hasExt, cntFs, idxFs, clnFs, ovlFs, List.contains_nil, List.any_cons, List.any_nil, Nat.reduceBEq, setC, List.length_set, eq_self, Nat.zero_add, Nat.add_zero, hal, set_end, cfD, cjB, set_mid, get_mid, wp_doneL, set_sort]
    · simp (maxSteps := 1000000) (disch := omega) only [push_cast, Nat.reduceLT, Nat.reduceEqDiff, ↓reduceIte, setC, List.length_set, reduceCtorEq, eq_self, hal, h0, h2, h7, h8]
  clear hal h0 h2 h7 h8 a
  rintro a T ⟨rfl, hal, h0, h2, h7, h8, h10, h11⟩
  have hkX := hx4.row
  obtain ⟨rr, hrd, hlr, hrr⟩ := hx4.os g3
  obtain ⟨tq, tf, tes, rfl, -, ht1, htl, ht2⟩ := hx4.tab i id x d0 g3
  have hltX := lt_of_get g3
  have hXU : ExtS X (X ++ [Ob.row 2 [[.str x.cfg.equip, .sl 4 (x.cfg.cabs.map Cab.enc) x.cfg.cabsx]]]) := ExtS.app
  have hA := get_end (l := X) (x := Ob.row 2 [[.str x.cfg.equip, .sl 4 (x.cfg.cabs.map Cab.enc) x.cfg.cabsx]])
  have hUl : (X ++ [Ob.row 2 [[.str x.cfg.equip, .sl 4 (x.cfg.cabs.map Cab.enc) x.cfg.cabsx]]]).length = X.length + 1 := by simp
  have hT0 := ht.parts
  subst hrd
  generalize hU0 : X ++ [Ob.row 2 [[.str x.cfg.equip, .sl 4 (x.cfg.cabs.map Cab.enc) x.cfg.cabsx]]] = U0 at *
  have hTl : (emptyF b).length = b.cabs.length := by simp [emptyF]
  simp (maxSteps := 1000000) (disch := omega) only [push_cast, ↓wc_seq, ↓wc_block, ↓wc_region, ↓wr_cons, ↓wr_nil, ↓wc_wl, wo_some, opQ_eq, seqQ_normal, Nat.reduceAdd, Nat.reduceMul, ↓reduceIte, planIds, List.contains_cons, List.contains_nil, Nat.reduceBEq, Nat.zero_add]
  refine wl_loop (fun c a U => a.length = 130 ∧ a[0]? = some (.loc k 0 0) ∧ a[2]? = some (.str e) ∧ a[7]? = some (.int .i64 i) ∧ a[8]? = some (.loc V.length 0 0) ∧ a[10]? = some (.loc X.length 0 0) ∧ a[11]? = some (.os q 0 b.cabs.length false) ∧ a[12]? = some (.int .i64 c) ∧ ExtS U0 U ∧ FreshL U lab2 ∧ ∃ t, t = (slC x.cfg.cabs c).foldl (moveF x.cfg b x.sold) (emptyF b) ∧ TabAt U (cutL (X.length + 1) lab2) o i (.os q 0 b.cabs.length false) t ∧ Tab b (9999 * (slC x.cfg.cabs c).length) t) x.cfg.cabs.length ?_ (by omega) ?_
  · simp (maxSteps := 1000000) (disch := omega) only [push_cast, Nat.reduceLT, Nat.reduceEqDiff, ↓reduceIte, setC, List.length_set, reduceCtorEq, eq_self, hal, h0, h2, h7, h8, h10, h11, Int.natCast_zero]
    exact ⟨hx3, hf3, _, rfl, ht, Tab.empty⟩
  clear hal h0 h2 h7 h8 h10 h11 a
  rintro c a U hc ⟨hal, h0, h2, h7, h8, h10, h11, h12, hxU, hfU, t, ht', hT', hTab⟩
  have hAU := hxU _ _ hA
  have hbU := hxU _ _ (hXU _ _ hb4)
  have hkU := hxU _ _ (hXU _ _ hkX)
  have hrU := hxU _ _ (hXU _ _ hrr)
  have htU := hxU _ _ (hXU _ _ ht1)
  rcases Nat.lt_or_eq_of_le hc with hlt | rfl
  case inr =>
    have hres : resizeF x b = { x with cfg := b, sold := t } := by rw [ht']; rfl
    have hT2 := hT'.uncut
    have hlb : ∀ z, z < X.length → lab2 z = lab z := fun z hz => hl3 z (by omega)
    have hrl2 := lt_of_get hrU
    have hSX : ExtS S X := hSV.trans hVX
    have hfin : RAt (U.set rr (.row 7 ((rows.map rowE).set i (rowE (id, { x with cfg := b, sold := t }, .os q 0 b.cabs.length false))))) lab2 o k { s with legs := updL s.legs id (resizeF · b) } ∧ Step o S lab (U.set rr (.row 7 ((rows.map rowE).set i (rowE (id, { x with cfg := b, sold := t }, .os q 0 b.cabs.length false))))) lab2 := by
      have hfr : FreshL (U.set rr (.row 7 ((rows.map rowE).set i (rowE (id, { x with cfg := b, sold := t }, .os q 0 b.cabs.length false))))) lab2 := fun z hz => hfU z (by simpa using hz)
      refine ⟨⟨hfr, _, _, hx4.redo (f := (resizeF · b)) (d' := .os q 0 b.cabs.length false) ok.ids g3 rfl (fun z ob hz n0 n1 n2 => ?_) hlb ?_ ?_⟩, ⟨?_, hfr, fun z hz => hlb z (by omega), fun z hz hne => ?_⟩⟩
      · rw [List.getElem?_set_ne (fun e => n0 e.symm)]
        exact hxU z ob (hXU z ob hz)
      · rw [hres]
        exact List.getElem?_set_self hrl2
      · rw [hres]
        refine hT2.keep fun z ob tl hz hly => ⟨?_, rfl⟩
        rw [List.getElem?_set_ne]
        · exact hz
        · rintro rfl
          rw [hlb rr (lt_of_get hrr), hlr] at hly
          rcases hly with hly | ⟨j, hly⟩ <;> simp at hly
      · rw [List.length_set]
        have := hxU.len
        omega
      · rw [List.getElem?_set_ne]
        · rw [List.getElem?_eq_getElem hz]
          exact hxU z _ (hXU z _ (hSX z _ (List.getElem?_eq_getElem hz)))
        · rintro rfl
          rw [hlr] at hne
          simp at hne
    have heq : b.equip = e := (findF_mem hfd).2
    simp only [rowE] at hfin
    rw [heq] at hfin
    simp (maxSteps := 1000000) (disch := omega) only [push_cast, ↓wc_seq, ↓wc_condL, ↓wc_region, ↓wr_cons, ↓wr_nil, ↓wc_exit, ↓wc_ret, wo_some, opQ_eq, seqQ_normal, seqQ_exit, blockQ_exit, iterQ_exit, retQ_ret, pickC_false, Nat.reduceAdd, Nat.reduceMul, Nat.reduceLT, Nat.reduceLeDiff, Nat.reduceEqDiff, ↓reduceIte, planIds, List.contains_cons, List.contains_nil, Nat.reduceBEq, setC, List.length_set, reduceCtorEq, eq_self, Int.natCast_nonneg, Int.toNat_natCast, Int.ofNat_lt, Nat.zero_add, hal, h0, h2, h7, h10, h11, h12, Int.lt_irrefl, hAU, hkU, hrU, hltX, g3, hrl2, List.length_map, List.getElem?_map, List.set_set, Tryz.f73]
    exact ⟨lab2, hfin⟩
  have hltc : (c : Int) < x.cfg.cabs.length := by omega
  obtain ⟨y, hy⟩ : ∃ y, x.cfg.cabs[c]? = some y := ⟨x.cfg.cabs[c], by simp [hlt]⟩
  obtain ⟨row, hrow, hrl', hyo⟩ := leg_sizes hok hy
  have hl26 := hyo.l2
  have hrng := hok.rng (by omega) hrow
  obtain ⟨f1, -, f3⟩ := ht2 c row hrow
  simp (maxSteps := 1000000) (disch := omega) only [push_cast, ↓wc_seq, ↓wc_block, ↓wc_condL, ↓wc_region, ↓wr_cons, ↓wr_nil, ↓wc_skip, ↓wc_wl, wo_some, opQ_eq, seqQ_normal, pickC_true, Nat.reduceAdd, Nat.reduceMul, Nat.reduceLT, Nat.reduceEqDiff, ↓reduceIte, planIds, List.contains_cons, List.contains_nil, Nat.reduceBEq, setC, List.length_set, eq_self, Nat.zero_add, hal, h10, h12, hltc, hAU, List.length_map]
  refine wl_loop (fun j a U => a.length = 130 ∧ a[0]? = some (.loc k 0 0) ∧ a[2]? = some (.str e) ∧ a[7]? = some (.int .i64 i) ∧ a[8]? = some (.loc V.length 0 0) ∧ a[10]? = some (.loc X.length 0 0) ∧ a[11]? = some (.os q 0 b.cabs.length false) ∧ a[12]? = some (.int .i64 c) ∧ a[13]? = some (.int .i64 j) ∧ ExtS U0 U ∧ FreshL U lab2 ∧ ∃ t, t = (slC x.cfg.cabs c ++ slJ c y j).foldl (moveF x.cfg b x.sold) (emptyF b) ∧ TabAt U (cutL (X.length + 1) lab2) o i (.os q 0 b.cabs.length false) t ∧ Tab b (9999 * (slC x.cfg.cabs c ++ slJ c y j).length) t) y.cls.length ?_ (by omega) ?_
  · simp (maxSteps := 1000000) (disch := omega) only [push_cast, Nat.reduceLT, Nat.reduceEqDiff, ↓reduceIte, setC, List.length_set, reduceCtorEq, eq_self, hal, h0, h2, h7, h8, h10, h11, h12, Int.natCast_zero, slJ]
    exact ⟨hxU, hfU, _, rfl, by rw [← ht']; exact hT', by rw [← ht']; exact hTab⟩
  clear hal h0 h2 h7 h8 h10 h11 h12 a
  clear hAU hbU hkU hrU htU
  clear hxU hfU hT' hTab ht' t U
  rintro j a U hj ⟨hal, h0, h2, h7, h8, h10, h11, h12, h13, hxU, hfU, t, ht', hT', hTab⟩
  have hAU := hxU _ _ hA
  have hbU := hxU _ _ (hXU _ _ hb4)
  have hkU := hxU _ _ (hXU _ _ hkX)
  have hrU := hxU _ _ (hXU _ _ hrr)
  have htU := hxU _ _ (hXU _ _ ht1)
  have hfU3 := hxU _ _ (hXU _ _ f3)
  rcases Nat.lt_or_eq_of_le hj with hlj | rfl
  case inr =>
    rw [← slC_succ hy] at ht' hTab
    simp (maxSteps := 1000000) (disch := omega) only [push_cast, ↓wc_seq, ↓wc_condL, ↓wc_region, ↓wr_cons, ↓wr_nil, ↓wc_exit, wo_some, opQ_eq, seqQ_normal, seqQ_exit, blockQ_normal, blockQ_exit, iterQ_normal, iterQ_exit, pickC_false, Nat.reduceAdd, Nat.reduceMul, Nat.reduceLT, Nat.reduceEqDiff, ↓reduceIte, planIds, List.contains_cons, List.contains_nil, Nat.reduceBEq, setC, List.length_set, reduceCtorEq, eq_self, Int.natCast_nonneg, Int.toNat_natCast, Nat.zero_add, hal, h0, h2, h7, h8, h10, h11, h12, h13, Int.lt_irrefl, hlt, hAU, hy, List.length_map, List.getElem?_map, Cab.enc, wrap_ok, Int.natCast_add, Int.natCast_one]
    exact ⟨hxU, hfU, t, ht', hT', hTab⟩
  have hljc : (j : Int) < y.cls.length := by omega
  obtain ⟨z, hz⟩ : ∃ z, y.cls[j]? = some z := ⟨y.cls[j], by simp [hlj]⟩
  obtain ⟨v, hv⟩ : ∃ v, row[j]? = some v := ⟨row[j], by simp [hrl', hlj]⟩
  have hvb := hrng v (mem_at hv)
  have hjr : j < row.length := by omega
  have hcs : c < x.sold.length := lt_of_get hrow
  have hn1 := slC_len hsm.cls c
  have hn2 := slJ_len c y j
  obtain ⟨row', v', w1, w2, w3, w4⟩ := to_at (a := x.cfg) hco hTab z.code
  rw [List.length_append] at w4
  have hbnd : (9999 * (((slC x.cfg.cabs c).length + (slJ c y j).length : Nat) : Int)) ≤ 9999 * 1000 := by omega
  obtain ⟨es', hq', hlq', hr'⟩ := hT'.parts
  obtain ⟨r', hr1', hr2', hr3'⟩ := hr' _ _ w1
  have clk := rLike_c (n := n) (a := x.cfg) (b := b) (cl := z.code) (by omega) hok.cfg.sm hco.sm
  have cpl := rPlace_c (n := n) (c := b) (cl := (likeF x.cfg.cabs b.cabs z.code).getD (ByteArray.mk #[])) (by omega) hco.sm
  rw [likeD_eq] at clk
  rw [placeD_eq] at cpl
  change ∀ st S, callD E (dcall E n) st S 60 [.agg b.enc, .str ((likeF x.cfg.cabs b.cabs z.code).getD (ByteArray.mk #[]))] = some (.tup [.int .i64 (toF x.cfg b z.code).1, .int .i64 (toF x.cfg b z.code).2, .bool (placeF ((likeF x.cfg.cabs b.cabs z.code).getD (ByteArray.mk #[])) 0 b.cabs).isSome], S) at cpl
  have hmv : (slC x.cfg.cabs c ++ slJ c y (j + 1)).foldl (moveF x.cfg b x.sold) (emptyF b) = addAt t (toF x.cfg b z.code).1 (toF x.cfg b z.code).2 v := by
    rw [slJ_succ hz, ← List.append_assoc, List.foldl_append, ← ht']
    show addAt t _ _ (soldAt x.sold c j) = _
    unfold soldAt
    rw [hrow, Option.bind_some, hv]
    rfl
  have hlen2 : (slC x.cfg.cabs c ++ slJ c y (j + 1)).length = (slC x.cfg.cabs c ++ slJ c y j).length + 1 := by
    rw [slJ_succ hz, ← List.append_assoc, List.length_append (bs := [_])]
    rfl
  have hTab2 := hTab.add (i := (toF x.cfg b z.code).1) (k := (toF x.cfg b z.code).2) hvb.1 hvb.2
  have hx'l : (toF x.cfg b z.code).1 < b.cabs.length := by rw [← hTab.len]; exact lt_of_get w1
  have hy'l : (toF x.cfg b z.code).2 < row'.length := lt_of_get w2
  generalize (likeF x.cfg.cabs b.cabs z.code).getD (ByteArray.mk #[]) = lk at *
  generalize toF x.cfg b z.code = tx at *
  obtain ⟨x', y'⟩ := tx
  dsimp only at w1 w2 hr1' hmv hTab2 hx'l hy'l cpl
  have hlr' := lt_of_get hr3'
  have hadd := hT'.add (b := y') (n := v) w1 hr2' ⟨q, es', by rw [hTab.len], hq', hr1'⟩
  have hsm2 := set_modify (n := v) w2
  simp only [Cfg.enc] at clk cpl
  simp (maxSteps := 1000000) (disch := omega) only [push_cast, ↓wc_seq, ↓wc_block, ↓wc_condL, ↓wc_region, ↓wr_cons, ↓wr_nil, ↓wo_callf, ↓wc_skip, wo_some, opQ_eq, seqQ_normal, blockQ_normal, iterQ_normal, pickC_true, Nat.reduceAdd, Nat.reduceMul, Nat.reduceLT, Nat.reduceLeDiff, Nat.reduceEqDiff, ↓reduceIte, planIds, hasExt, cntFs, idxFs, clnFs, ovlFs, List.contains_cons, List.contains_nil, List.any_cons, List.any_nil, Nat.reduceBEq, setC, List.length_set, reduceCtorEq, eq_self, Int.natCast_nonneg, Int.toNat_natCast, Int.ofNat_lt, Nat.zero_add, Nat.add_zero, hal, h0, h2, h7, h8, h10, h11, h12, h13, hlj, hljc, hz, hy, hAU, hbU, hkU, hrU, hltX, g3, htU, f1, hfU3, hv, hq', hr1', hr3', w2, clk, cpl, hcs, hjr, hx'l, hy'l, hsm2, List.length_map, List.getElem?_map, Cab.enc, Cls.enc, wrap_ok, Int.natCast_add, Int.natCast_one]
  refine ⟨hxU.set (Nat.le_trans (Nat.le_of_eq hUl) (cutL_eq hr2').1) _, fun zz hzz => ?_, _, hmv.symm, hadd, ?_⟩
  · rw [List.length_set] at hzz
    exact hfU zz hzz
  · rw [hlen2]
    exact hTab2.mono (by omega)
end
end Go.Proofs.YtajhgnefcddenaaGreatDoor.Dm
