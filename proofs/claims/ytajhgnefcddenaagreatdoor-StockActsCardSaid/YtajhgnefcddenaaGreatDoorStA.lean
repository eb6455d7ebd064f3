/-
  The reference's Legs; the answers of both inventories are the same.
-/
import Derived.Test.YtajhgnefcddenaaGreatDoorLgC
import Derived.Test.YtajhgnefcddenaaGreatDoorRoS
import Derived.Test.YtajhgnefcddenaaGreatDoorSlL
namespace Go.Proofs.YtajhgnefcddenaaGreatDoor.Dm
open Go Gw
set_option linter.unusedSimpArgs false
set_option linter.unusedSimpArgs false

theorem ba_beq (x y : ByteArray) : (x.toList == y.toList) = decide (x = y) := str_eq x y
set_option maxHeartbeats 4000000 in
set_option maxRecDepth 100000 in
theorem Before_c {n : Nat} (hn : 1 ≤ n) (x y : Lid) (st : Bool) (S : List Ob) : callD E (dcall E n) st S 123 [.agg x.enc, .agg y.enc] = some (.bool (Lg.lt Lg.cmpL x y), S) := by
  obtain ⟨m, rfl⟩ : ∃ m, n = m + 1 := ⟨n - 1, by omega⟩
  have : WO (dcall E (m + 1) 123 [.agg x.enc, .agg y.enc] []) fun d _ => d = .bool (Lg.lt Lg.cmpL x y) := by
    rw [Lg.lt_lid]
    refine wo_dcall Tryz.func123 rfl (by decide) rfl 40 rfl (fun a hal ha => ?_)
    have h0 : a[0]? = some (.agg x.enc) := ha 0 (by simp)
    have h1 : a[1]? = some (.agg y.enc) := ha 1 (by simp)
    clear ha
    simp only [Lid.enc] at h0 h1
    have hc := ba_beq x.c y.c
    by_cases e1 : x.c = y.c
    · rw [decide_eq_true e1] at hc
      rw [if_pos e1]
      by_cases e2 : x.n = y.n
      · rw [if_pos e2]
        by_cases e3 : x.d = y.d
        · rw [if_pos e3]
          simp (maxSteps := 1000000) (disch := omega) only [push_cast, ↓wc_seq, ↓wc_condL, ↓wc_region, ↓wr_cons, ↓wr_nil, ↓wc_ret, ↓wc_skip, wo_some, opQ_eq, seqQ_normal, retQ_ret, pickC_false, int_bne, Nat.reduceAdd, Nat.reduceMul, Nat.reduceLT, Nat.reduceEqDiff, ↓reduceIte, planIds, List.contains_cons, List.contains_nil, Nat.reduceBEq, setC, List.length_set, eq_self, Nat.zero_add, Nat.add_zero, not_true_eq_false, hal, h0, h1, hc, e2, e3, List.getElem?_cons_zero, Tryz.f123]
        · rw [if_neg e3]
          simp (maxSteps := 1000000) (disch := omega) only [push_cast, ↓wc_seq, ↓wc_condL, ↓wc_region, ↓wr_cons, ↓wr_nil, ↓wc_ret, ↓wc_skip, wo_some, opQ_eq, seqQ_normal, seqQ_ret, retQ_ret, pickC_true, pickC_false, int_bne, Nat.reduceAdd, Nat.reduceMul, Nat.reduceLT, Nat.reduceEqDiff, ↓reduceIte, planIds, List.contains_cons, List.contains_nil, Nat.reduceBEq, setC, List.length_set, eq_self, Nat.zero_add, Nat.add_zero, not_true_eq_false, not_false_eq_true, hal, h0, h1, hc, e2, e3, Tryz.f123]
      · rw [if_neg e2]
        simp (maxSteps := 1000000) (disch := omega) only [push_cast, ↓wc_seq, ↓wc_condL, ↓wc_region, ↓wr_cons, ↓wr_nil, ↓wc_ret, ↓wc_skip, wo_some, opQ_eq, seqQ_normal, seqQ_ret, retQ_ret, pickC_true, pickC_false, int_bne, Nat.reduceAdd, Nat.reduceMul, Nat.reduceLT, Nat.reduceEqDiff, ↓reduceIte, planIds, List.contains_cons, List.contains_nil, Nat.reduceBEq, setC, List.length_set, eq_self, Nat.zero_add, Nat.add_zero, not_false_eq_true, hal, h0, h1, hc, e2, Tryz.f123]
    · rw [decide_eq_false e1] at hc
      rw [if_neg e1]
      simp (maxSteps := 1000000) (disch := omega) only [push_cast, ↓wc_seq, ↓wc_condL, ↓wc_region, ↓wr_cons, ↓wr_nil, ↓wc_ret, wo_some, opQ_eq, seqQ_normal, seqQ_ret, retQ_ret, pickC_true, Nat.reduceAdd, Nat.reduceMul, Nat.reduceLT, Nat.reduceEqDiff, ↓reduceIte, planIds, List.contains_cons, List.contains_nil, Nat.reduceBEq, setC, List.length_set, eq_self, Nat.zero_add, Nat.add_zero, hal, h0, h1, hc, Tryz.f123]
  obtain ⟨d, T, ho, rfl⟩ := this
  exact callD_pure rfl (by simp [pureL_cons, pureL_nil, D.pure, Lid_pure]) ho rfl
theorem cells4 : (D.agg [.str (ByteArray.mk #[]), .int .i64 0, .int .i64 0, .str (ByteArray.mk #[])]).cells.length = 3 + 1 := rfl
/-- An append that makes a new row. -/
theorem app_new {U : List Ob} {a b : D} {la lb : List Lid} (ha : srcOf U 4 a = some (la.map Lid.enc)) (hb : srcOf U 4 b = some (lb.map Lid.enc)) (hx : a = .nils ∨ (∃ es, a = .sl 4 es true) ∨ ∃ q i len, a = .os q i len true) (h0 : lb.length ≠ 0) (hl : la.length + lb.length ≤ 3000) :
    dAppend Tryz.prog U 38 38 a b = some (.os U.length 0 (la.length + lb.length) false, U ++ [.row 4 ((la ++ lb).map Lid.enc)]) := by
  have hbb : (la.length + lb.length) * bytesT Tryz.prog 50 ≤ 140737488355328 := Nat.le_trans (Nat.mul_le_mul hl Lg.byL) (by decide)
  have hm : (la.length + lb.length ≤ maxLen) = True := le_max (by omega)
  unfold dAppend
  rw [if_pos rfl, Lg.elL]
  dsimp only
  rw [Lg.szL, Lg.zeL]
  dsimp only
  rw [if_pos cells4, show srcOf U (3 + 1) a = _ from ha, show srcOf U (3 + 1) b = _ from hb]
  dsimp only
  rw [List.length_map, List.length_map, if_neg h0, if_pos ⟨hm.mpr trivial, hbb⟩, List.map_append]
  rcases hx with rfl | ⟨es, rfl⟩ | ⟨q, i, len, rfl⟩
  · have : la = [] := by
      simp only [srcOf, Option.some.injEq] at ha
      cases la with
      | nil => rfl
      | cons x l => cases ha
    subst this
    simp
  · rfl
  · rfl
theorem app_none {U : List Ob} {a b : D} {la : List Lid} (ha : srcOf U 4 a = some (la.map Lid.enc)) (hb : srcOf U 4 b = some []) : dAppend Tryz.prog U 38 38 a b = some (a, U) := by
  unfold dAppend
  rw [if_pos rfl, Lg.elL]
  dsimp only
  rw [Lg.szL, Lg.zeL]
  dsimp only
  rw [if_pos cells4, show srcOf U (3 + 1) a = _ from ha, show srcOf U (3 + 1) b = _ from hb]
  rfl
theorem src_os {U : List Ob} {q i len : Nat} {x : Bool} {l : List Lid} (hq : U[q]? = some (.row 4 (l.map Lid.enc))) (h : i + len ≤ l.length) : srcOf U 4 (.os q i len x) = some (((l.drop i).take len).map Lid.enc) := by
  simp only [srcOf, hq]
  rw [if_pos ⟨trivial, by rw [List.length_map]; exact h⟩, List.map_take, List.map_drop]
theorem src_upto {U : List Ob} {q j : Nat} {x : Bool} {l : List Lid} (hq : U[q]? = some (.row 4 (l.map Lid.enc))) (h : j ≤ l.length) : srcOf U 4 (.os q 0 j x) = some ((l.take j).map Lid.enc) := by
  rw [src_os hq (by omega), List.drop_zero]
section
variable {S : List Ob} {lab : Lab} {o k n : Nat} {s : Stk} {rd : D} {rows : List RRow}
def idsR (rows : List RRow) : List Lid := rows.map (·.1)
theorem idsR_succ {i : Nat} {w : RRow} (h : rows[i]? = some w) : (idsR rows).take (i + 1) = (idsR rows).take i ++ [w.1] := by
  unfold idsR
  rw [List.take_add_one, List.getElem?_map, h]
  rfl
set_option maxHeartbeats 8000000 in
set_option maxRecDepth 100000 in
theorem rLegs_d (hn : 120 ≤ n) (h : RefAt S lab o s k rd rows) (hl : rows.length ≤ 100) :
    WO (dcall E (n + 1) 80 [.loc k 0 0] S) fun d T => GL 4 Lid.enc T d (Lg.sortL (idsR rows)) ∧ ExtS S T := by
  refine wo_dcall Tryz.func80 rfl (by decide) rfl 61 rfl (fun a hal ha => ?_)
  have h0 : a[0]? = some (.loc k 0 0) := ha 0 (by simp)
  clear ha
  rcases h.gl with ⟨rfl, rfl⟩ | ⟨r, rfl, hr⟩
  · have cm := rmade_c (n := n) (by omega) h
    have hk := h.row
    simp (maxSteps := 1000000) (disch := omega) only [push_cast, ↓wc_seq, ↓wc_block, ↓wc_region, ↓wr_cons, ↓wr_nil, ↓wc_wl, wo_some, opQ_eq, seqQ_normal, Nat.reduceAdd, Nat.reduceMul, ↓reduceIte, planIds, List.contains_cons, List.contains_nil, Nat.reduceBEq, Nat.zero_add]
    refine wl_loop (fun i a T => i = 0 ∧ T = S ∧ a.length = 61 ∧ a[0]? = some (.loc k 0 0) ∧ a[3]? = some (.nils) ∧ a[4]? = some (.int .i64 0)) 0 ?_ (by omega) ?_
    · simp (maxSteps := 1000000) (disch := omega) only [push_cast, Nat.reduceLT, Nat.reduceEqDiff, ↓reduceIte, setC, List.length_set, reduceCtorEq, eq_self, hal, h0]
    clear hal h0 a
    rintro i a T _ ⟨rfl, rfl, hal, h0, h3, h4⟩
    simp (maxSteps := 1000000) (disch := omega) only [push_cast, ↓wc_seq, ↓wc_condL, ↓wc_region, ↓wr_cons, ↓wr_consgL, ↓wr_nil, ↓wo_pickL, ↓wo_callf, ↓wc_exit, ↓wc_ret, wo_some, opQ_eq, seqQ_normal, seqQ_exit, blockQ_exit, iterQ_exit, retQ_ret, pickC_false, pickO_true, gstep_tt, Nat.reduceAdd, Nat.reduceMul, Nat.reduceLT, Nat.reduceEqDiff, ↓reduceIte, planIds, hasExt, cntFs, idxFs, clnFs, ovlFs, List.contains_cons, List.contains_nil, List.any_cons, List.any_nil, Nat.reduceBEq, setC, List.length_set, reduceCtorEq, eq_self, Nat.zero_add, hal, h0, h3, h4, cm, hk, Int.lt_irrefl, Tryz.f80]
    refine ⟨?_, ExtS.refl⟩
    rw [show idsR [] = [] from rfl, sortL_nil]
    exact GL.nil
  simp (maxSteps := 1000000) (disch := omega) only [push_cast, ↓wc_seq, ↓wc_block, ↓wc_region, ↓wr_cons, ↓wr_nil, ↓wc_wl, wo_some, opQ_eq, seqQ_normal, Nat.reduceAdd, Nat.reduceMul, ↓reduceIte, planIds, List.contains_cons, List.contains_nil, Nat.reduceBEq, Nat.zero_add]
  refine wl_loop (fun i a T => a.length = 61 ∧ a[0]? = some (.loc k 0 0) ∧ a[4]? = some (.int .i64 i) ∧ ExtS S T ∧ ∃ d, a[3]? = some d ∧ (i = 0 → d = .nils) ∧ GL 4 Lid.enc T d (Lg.sortL ((idsR rows).take i))) rows.length ?_ (by omega) ?_
  · simp (maxSteps := 1000000) (disch := omega) only [push_cast, Nat.reduceLT, Nat.reduceEqDiff, ↓reduceIte, setC, List.length_set, forall_const, reduceCtorEq, eq_self, Option.some.injEq, hal, h0, Int.natCast_zero, List.take_zero]
    refine ⟨ExtS.refl, _, rfl, rfl, ?_⟩
    rw [sortL_nil]
    exact GL.nil
  clear hal h0 a
  rintro i a T hi ⟨hal, h0, h4, hx, d, h3, hi0, hg⟩
  have hT := h.keep (KeepO.ext hx)
  have cm := rmade_c (n := n) (by omega) hT
  have hk := hT.row
  have hrT := hx r _ hr
  rcases Nat.lt_or_eq_of_le hi with hlt | rfl
  case inr =>
    rw [show (idsR rows).take rows.length = idsR rows by unfold idsR; rw [← List.length_map (f := fun r : RRow => r.1), List.take_length]] at hg
    simp (maxSteps := 1000000) (disch := omega) only [push_cast, ↓wc_seq, ↓wc_condL, ↓wc_region, ↓wr_cons, ↓wr_consgL, ↓wr_nil, ↓wo_pickL, ↓wo_callf, ↓wc_exit, ↓wc_ret, wo_some, opQ_eq, seqQ_normal, seqQ_exit, blockQ_exit, iterQ_exit, retQ_ret, pickC_false, pickO_true, gstep_tt, Nat.reduceAdd, Nat.reduceMul, Nat.reduceLT, Nat.reduceEqDiff, ↓reduceIte, planIds, hasExt, cntFs, idxFs, clnFs, ovlFs, List.contains_cons, List.contains_nil, List.any_cons, List.any_nil, Nat.reduceBEq, setC, List.length_set, reduceCtorEq, eq_self, Nat.zero_add, hal, h0, h3, h4, cm, hk, Int.lt_irrefl, Tryz.f80]
    exact ⟨hg, hx⟩
  have hlc : (i : Int) < rows.length := by omega
  obtain ⟨w, hw⟩ : ∃ w, rows[i]? = some w := ⟨rows[i], by simp⟩
  obtain ⟨q, hq⟩ : ∃ q, q = Lg.sortL ((idsR rows).take i) := ⟨_, rfl⟩
  have hql : q.length = i := by
    rw [hq, Lg.sortL_len, List.length_take]
    unfold idsR
    rw [List.length_map]; omega
  rw [← hq] at hg
  have cb := fun y => Before_c (n := n) (by omega) y w.1
  simp (maxSteps := 1000000) (disch := omega) only [push_cast, ↓wc_seq, ↓wc_block, ↓wc_condL, ↓wc_region, ↓wr_cons, ↓wr_consgL, ↓wr_nil, ↓wo_pickL, ↓wo_callf, ↓wc_skip, ↓wc_wl, wo_some, opQ_eq, seqQ_normal, pickC_true, pickO_true, gstep_tt, Nat.reduceAdd, Nat.reduceMul, Nat.reduceLT, Nat.reduceEqDiff, ↓reduceIte, planIds, hasExt, cntFs, idxFs, clnFs, ovlFs, List.contains_cons, List.contains_nil, List.any_cons, List.any_nil, Nat.reduceBEq, setC, List.length_set, reduceCtorEq, eq_self, Nat.zero_add, hal, h0, h4, cm, hk, hlc]
  refine wl_loop (fun j a U => U = T ∧ a.length = 61 ∧ a[0]? = some (.loc k 0 0) ∧ a[3]? = some (d) ∧ a[4]? = some (.int .i64 i) ∧ a[5]? = some (.int .i64 j) ∧ j ≤ q.length ∧ ∀ m y, m < j → q[m]? = some y → Lg.lt Lg.cmpL y w.1 = true) q.length ?_ (by omega) ?_
  · simp (maxSteps := 1000000) (disch := omega) only [push_cast, Nat.reduceLT, Nat.reduceEqDiff, ↓reduceIte, setC, List.length_set, reduceCtorEq, eq_self, hal, h0, h3, h4, Int.natCast_zero]
    exact ⟨Nat.zero_le _, fun m y hm => by omega⟩
  clear hal h0 h3 h4 a
  rintro j a U hj ⟨rfl, hal, h0, h3, h4, h5, hjq, hlow⟩
  have hdl : dLen Tryz.prog U 38 d = some (.int .i64 q.length) := by
    rcases hg with ⟨rfl, e⟩ | ⟨m, rfl, -⟩
    · rw [e]; rfl
    · rfl
  have step : (∃ y, q[j]? = some y ∧ Lg.lt Lg.cmpL y w.1 = true) ∨ ∀ y, q[j]? = some y → Lg.lt Lg.cmpL y w.1 = false := by
    rcases e : q[j]? with _ | y
    · exact .inr fun y hy => by cases hy
    · cases e2 : Lg.lt Lg.cmpL y w.1
      · exact .inr fun y' hy => by cases hy; exact e2
      · exact .inl ⟨y, rfl, e2⟩
  rcases step with ⟨y, hy, hyl⟩ | hno
  · have hjl := lt_of_get hy
    have hjc : (j : Int) < q.length := by omega
    rcases hg with ⟨-, e⟩ | ⟨m, rfl, hm⟩
    · rw [e] at hjl; cases hjl
    have cy := cb y
    rw [hyl] at cy
    simp only [Lid.enc] at cy
    simp (maxSteps := 1000000) (disch := omega) only [push_cast, ↓wc_seq, ↓wc_block, ↓wc_condL, ↓wc_region, ↓wr_cons, ↓wr_consgL, ↓wr_nil, ↓wo_pickL, ↓wo_callf, ↓wc_skip, wo_some, opQ_eq, seqQ_normal, blockQ_normal, iterQ_normal, pickC_true, pickO_true, gstep_tt, Nat.reduceAdd, Nat.reduceMul, Nat.reduceLT, Nat.reduceLeDiff, Nat.reduceEqDiff, ↓reduceIte, planIds, hasExt, cntFs, idxFs, clnFs, ovlFs, List.contains_cons, List.contains_nil, List.any_cons, List.any_nil, Nat.reduceBEq, setC, List.length_set, reduceCtorEq, eq_self, Int.natCast_nonneg, Int.toNat_natCast, Nat.zero_add, Nat.add_zero, hal, h0, h3, h4, h5, hk, hrT, hlc, hjl, hjc, hw, hm, hy, cy, List.getElem?_map, Lid.enc, wrap_ok, Int.natCast_add, Int.natCast_one]
    refine ⟨by omega, fun m' y' hm' hy' => ?_⟩
    by_cases e : m' = j
    · subst e
      rw [hy] at hy'
      cases hy'; exact hyl
    · exact hlow m' y' (by omega) hy'
  have hfin := Lg.sortL_ins (l := (idsR rows).take i) (x := w.1) (k := j) hq hlow hno
  rw [← idsR_succ hw] at hfin
  have hi1 : i + 1 ≤ 101 := by omega
  rcases hg with ⟨rfl, e⟩ | ⟨m, rfl, hm⟩
  · obtain rfl : j = 0 := by rw [e] at hjq; simpa using hjq
    have a1 := app_none (U := U) (a := .sl 4 [w.1.enc] true) (b := .nils) (la := [w.1]) rfl rfl
    have a2 := app_new (U := U) (a := .nils) (b := .sl 4 [w.1.enc] true) (la := []) (lb := [w.1]) rfl rfl (.inl rfl) (by simp) (by simp)
    simp only [List.length_nil, List.length_cons, Nat.zero_add, List.nil_append, List.map_cons, List.map_nil, Lid.enc] at a1 a2
    simp (maxSteps := 1000000) (disch := omega) only [push_cast, ↓wc_seq, ↓wc_condL, ↓wc_region, ↓wr_cons, ↓wr_consgL, ↓wr_nil, ↓wo_pickL, ↓wc_exit, wo_some, opQ_eq, seqQ_normal, seqQ_exit, blockQ_normal, blockQ_exit, iterQ_normal, iterQ_exit, pickC_false, pickO_false, gstep_ft, Nat.reduceAdd, Nat.reduceMul, Nat.reducePow, Nat.reduceLT, Nat.reduceLeDiff, Nat.reduceEqDiff, Int.reduceLE, ↓wo_buildSlice, evParts, ↓reduceIte, planIds, List.contains_cons, List.contains_nil, Nat.reduceBEq, setC, List.length_set, false_implies, reduceCtorEq, eq_self, Int.natCast_nonneg, Int.toNat_natCast, Option.some.injEq, Nat.zero_add, Nat.add_zero, hal, h0, h3, h4, h5, hk, hrT, hlt, hlc, hw, a1, a2, Int.lt_irrefl, List.getElem?_map, wrap_ok, Int.natCast_add, Int.natCast_one, Int.natCast_zero]
    refine ⟨fun j ob hj => get_old (hx j ob hj), _, rfl, ?_⟩
    rw [hfin, e]
    exact .inr ⟨_, rfl, get_end⟩
  have hq0 : q.length ≠ 0 := fun e => by
    have := hi0 (by omega)
    cases this
  by_cases hjl : j < q.length
  · have hjc : (j : Int) < q.length := by omega
    obtain ⟨y, hy⟩ : ∃ y, q[j]? = some y := ⟨q[j], by simp⟩
    have cy := cb y
    rw [hno y hy] at cy
    have hd : (q.drop j).take (q.length - j) = q.drop j := List.take_of_length_le (by simp)
    have b1 := src_os (x := false) (i := j) (len := q.length - j) hm (by omega)
    rw [hd] at b1
    have a1 := app_new (U := U) (a := .sl 4 [w.1.enc] true) (la := [w.1]) rfl b1 (.inr (.inl ⟨_, rfl⟩)) (by simp; omega) (by simp; omega)
    have hjne : ¬ q.length = j := by omega
    obtain ⟨L, hL⟩ : ∃ L, L = [w.1] ++ q.drop j := ⟨_, rfl⟩
    have hN : [w.1].length + (q.drop j).length = L.length := by rw [hL, List.length_append]
    have hLl : L.length = 1 + (q.length - j) := by rw [hL]; simp; omega
    rw [← hL, hN] at a1
    have b2 : srcOf (U ++ [Ob.row 4 (L.map Lid.enc)]) 4 (.os U.length 0 L.length false) = some (L.map Lid.enc) := by
      rw [src_upto get_end (Nat.le_refl _), List.take_length]
    have hmo : ∀ ob, (U ++ [ob])[m]? = some (.row 4 (q.map Lid.enc)) := fun ob => get_old hm
    obtain ⟨M, hM⟩ : ∃ M, M = (q.take j).length + L.length := ⟨_, rfl⟩
    obtain ⟨R, hR⟩ : ∃ R, R = q.take j ++ L := ⟨_, rfl⟩
    have a2 := app_new (U := U ++ [.row 4 (L.map Lid.enc)]) (a := .os m 0 j true) (la := q.take j) (lb := L) (src_upto (get_old hm) hjq) b2 (.inr (.inr ⟨_, _, _, rfl⟩)) (by omega) (by simp; omega)
    rw [← hM, ← hR] at a2
    simp only [Lid.enc] at cy a1
    simp (maxSteps := 1000000) (disch := omega) only [push_cast, ↓wc_seq, ↓wc_condL, ↓wc_region, ↓wr_cons, ↓wr_consgL, ↓wr_nil, ↓wo_pickL, ↓wo_callf, ↓wc_exit, wo_some, opQ_eq, seqQ_normal, seqQ_exit, blockQ_normal, blockQ_exit, iterQ_normal, iterQ_exit, pickC_false, pickO_true, gstep_tt, Nat.reduceAdd, Nat.reduceMul, Nat.reducePow, Nat.reduceLT, Nat.reduceLeDiff, Nat.reduceEqDiff, ↓wo_buildSlice, evParts, ↓reduceIte, planIds, hasExt, cntFs, idxFs, clnFs, ovlFs, List.contains_cons, List.contains_nil, List.any_cons, List.any_nil, Nat.reduceBEq, setC, List.length_set, false_implies, reduceCtorEq, eq_self, Int.natCast_nonneg, Int.toNat_natCast, Option.some.injEq, Nat.zero_add, Nat.add_zero, hal, h0, h3, h4, h5, hk, hrT, hlt, hlc, hw, hm, hy, cy, a1, a2, hjc, hjq, hjne, hmo, Nat.le_refl, Nat.zero_le, Nat.sub_zero, List.getElem?_map, Lid.enc, wrap_ok, Int.natCast_add, Int.natCast_one]
    refine ⟨fun j ob hj => get_old (get_old (hx j ob hj)), _, rfl, ?_⟩
    rw [hfin, show q.take j ++ w.1 :: q.drop j = R by rw [hR, hL]; rfl]
    have hMR : M = R.length := by rw [hM, hR, List.length_append]
    exact .inr ⟨_, by rw [hMR], get_end⟩
  · obtain rfl : j = q.length := by omega
    have a1 := app_none (U := U) (a := .sl 4 [w.1.enc] true) (b := .sl 4 [] false) (la := [w.1]) rfl rfl
    have b1 := src_upto (x := true) hm (Nat.le_refl q.length)
    rw [List.take_length] at b1
    have a2 := app_new (U := U) (b := .sl 4 [w.1.enc] true) (lb := [w.1]) b1 rfl (.inr (.inr ⟨_, _, _, rfl⟩)) (by simp) (by simp; omega)
    have hpos : 0 < q.length := by omega
    simp only [Lid.enc, List.length_cons, List.length_nil, Nat.zero_add] at a1 a2
    simp (maxSteps := 1000000) (disch := omega) only [push_cast, ↓wc_seq, ↓wc_condL, ↓wc_region, ↓wr_cons, ↓wr_consgL, ↓wr_nil, ↓wo_pickL, ↓wc_exit, wo_some, opQ_eq, seqQ_normal, seqQ_exit, blockQ_normal, blockQ_exit, iterQ_normal, iterQ_exit, pickC_false, pickO_false, gstep_ft, Nat.reduceAdd, Nat.reduceMul, Nat.reducePow, Nat.reduceLT, Nat.reduceLeDiff, Nat.reduceEqDiff, ↓wo_buildSlice, evParts, ↓reduceIte, planIds, List.contains_cons, List.contains_nil, Nat.reduceBEq, setC, List.length_set, false_implies, reduceCtorEq, eq_self, Int.natCast_nonneg, Int.toNat_natCast, Option.some.injEq, Nat.zero_add, Nat.add_zero, hal, h0, h3, h4, h5, hk, hrT, hlt, hlc, hw, hm, a1, a2, hpos, Nat.le_refl, Nat.zero_le, Nat.sub_zero, Int.lt_irrefl, List.getElem?_map, wrap_ok, Int.natCast_add, Int.natCast_one]
    refine ⟨fun j ob hj => get_old (hx j ob hj), _, rfl, ?_⟩
    rw [hfin, List.take_length, List.drop_length]
    exact .inr ⟨_, by simp, get_end⟩
theorem rLegs_c (hn : 130 ≤ n) (h : RefAt S lab o s k rd rows) (hl : rows.length ≤ 100) :
    ∃ d T, (∀ st, callD E (dcall E n) st S 80 [.loc k 0 0] = some (d, T)) ∧ GL 4 Lid.enc T d (Lg.sortL (idsR rows)) ∧ ExtS S T := by
  obtain ⟨q, rfl⟩ : ∃ q, n = q + 1 := ⟨n - 1, by omega⟩
  obtain ⟨d, T, ho, h1, h2⟩ := rLegs_d (n := q) (by omega) h hl
  exact ⟨d, T, fun st => callD_extS rfl ho h2, h1, h2⟩
end
end Go.Proofs.YtajhgnefcddenaaGreatDoor.Dm
