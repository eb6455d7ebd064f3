/-
  The machine at the methods of an inventory that is nil or a zero value.
-/
import Derived.Test.YtlamgjbngblefaaGreatDoorSnA
import Derived.Test.YtlamgjbngblefaaGreatDoorSkW
import Derived.Test.YtlamgjbngblefaaGreatDoorSkF
namespace Go.Proofs.YtlamgjbngblefaaGreatDoor.Dm
open Go Gw
set_option linter.unusedSimpArgs false
set_option linter.unusedSimpArgs false

theorem callD_obsPn {call : Call} {st : Bool} {S T : List Ob} {f : FuncId} {args : List D} {d d' : D} (hm : E.mode f = .obs) (hp : pureL args = true) (h : call f args [] = some (d, T)) (hd : freeze T 40 d = some d') : callD E call st S f args = some (d', S) := by
  unfold callD
  rw [hm]
  dsimp only
  rw [if_pos hp, h]
  dsimp only
  rw [hd]; rfl
/-- A nil inventory, or a zero value. -/
def NoneAt (S : List Ob) (p : D) : Prop := p = .nilp ∨ ∃ k, p = .loc k 0 0 ∧ S[k]? = some (.row 2 [[.nils, .nilm]])
theorem NoneAt.app {S : List Ob} {p : D} (h : NoneAt S p) (J : List Ob) : NoneAt (S ++ J) p := by
  rcases h with h | ⟨k, h, hk⟩
  · exact .inl h
  · exact .inr ⟨k, h, by rw [List.getElem?_append_left (lt_of_get hk)]; exact hk⟩
section
variable {n : Nat} {S : List Ob} {p r : D} {f : FuncId} {xs : List D} {st : Bool}
theorem obs0 (hm : E.mode f = .obs) (h : NoneAt S p) (hx : pureL xs = true) (hr : r.pure = true) (w : ∀ S', NoneAt S' p → WO (dcall E n f (p :: xs) S') fun d T => d = r ∧ ∃ J, T = S' ++ J) : callD E (dcall E n) st S f (p :: xs) = some (r, S) := by
  rcases h with rfl | ⟨k, rfl, hk⟩
  · obtain ⟨d, T, ho, rfl, J, rfl⟩ := w [] (.inl rfl)
    exact callD_obsPn hm (by simp [pureL_cons, hx, D.pure]) ho (freeze_pure hr)
  · obtain ⟨d, T, ho, rfl, J, rfl⟩ := w S (.inr ⟨k, rfl, hk⟩)
    exact callD_obsJ hm (by simp [pureL_cons, D.pure]) ho hr
theorem ext0 (hm : E.mode f = .ext) (h : NoneAt S p) (w : ∀ S', NoneAt S' p → WO (dcall E n f (p :: xs) S') fun d T => d = r ∧ ∃ J, T = S' ++ J) : ∃ J, callD E (dcall E n) st S f (p :: xs) = some (r, S ++ J) := by
  obtain ⟨d, T, ho, rfl, J, rfl⟩ := w S h
  exact ⟨J, callD_ext hm ho⟩
theorem gen0 (hm : E.mode f = .gen) (h : NoneAt S p) (w : ∀ S', NoneAt S' p → WO (dcall E n f (p :: xs) S') fun d T => d = r ∧ ∃ J, T = S' ++ J) : ∃ J, callD E (dcall E n) st S f (p :: xs) = some (r, S ++ J) := by
  obtain ⟨d, T, ho, rfl, J, rfl⟩ := w S h
  refine ⟨J, ?_⟩
  unfold callD
  rw [hm]
  exact ho
theorem pure0 (hm : E.mode f = .pure) (h : NoneAt S p) (hx : pureL xs = true) (hr : r.pure = true) (w : ∀ S', NoneAt S' p → WO (dcall E n f (p :: xs) S') fun d T => d = r ∧ ∃ J, T = S' ++ J) : ∃ J, callD E (dcall E n) false S f (p :: xs) = some (r, S ++ J) := by
  rcases h with rfl | ⟨k, rfl, hk⟩
  · obtain ⟨d, T, ho, rfl, J, rfl⟩ := w [] (.inl rfl)
    exact ⟨[], by rw [List.append_nil]; exact callD_pure hm (by simp [pureL_cons, hx, D.pure]) ho (freeze_pure hr)⟩
  · obtain ⟨d, T, ho, rfl, J, rfl⟩ := w S (.inr ⟨k, rfl, hk⟩)
    exact ⟨J, (callD_own hm (by simp [pureL_cons, D.pure])).trans ho⟩
end
theorem eqp_stk0 : dEq Tryz.prog 10000 27 .nilp .nilp = some true := eqp_nil Tryz.underlying27
theorem eqm_nil {t a b : TypeId} {P : Program} (ht : P.underlying t = some (.map a b)) : dEq P 10000 t .nilm .nilm = some true := by
  rw [show (10000 : Nat) = 9999 + 1 from rfl]
  simp only [dEq, ht]
theorem eqm_legs0 : dEq Tryz.prog 10000 85 .nilm .nilm = some true := eqm_nil Tryz.underlying85
def e320 : ByteArray := ByteArray.mk #[51, 50, 48]
section
variable {n : Nat} {S : List Ob} {p : D}
theorem made0 (hn : 1 ≤ n) (h : NoneAt S p) (st : Bool) : callD E (dcall E n) st S 83 [p] = some (.bool false, S) := by
  obtain ⟨q, rfl⟩ : ∃ q, n = q + 1 := ⟨n - 1, by omega⟩
  refine obs0 rfl h rfl rfl fun S h => ?_
  rcases h with rfl | ⟨k, rfl, hk⟩
  · refine wo_dcall Tryz.func83 rfl (by decide) rfl 12 rfl (fun a hal ha => ?_)
    have h0 : a[0]? = some (.nilp) := ha 0 (by simp)
    clear ha
    simp (maxSteps := 1000000) (disch := omega) only [push_cast, ↓wc_seq, ↓wc_region, ↓wr_cons, ↓wr_consgL, ↓wr_nil, ↓wo_pickL, ↓wc_ret, wo_some, opQ_eq, seqQ_normal, retQ_ret, pickO_false, gstep_ft, Nat.reduceAdd, Nat.reduceMul, Nat.reduceLT, Nat.reduceEqDiff, ↓reduceIte, planIds, List.contains_cons, List.contains_nil, Nat.reduceBEq, setC, List.length_set, reduceCtorEq, eq_self, Nat.zero_add, planIds, List.contains_cons, List.contains_nil, Nat.reduceBEq, Nat.reduceMul, Nat.reduceAdd, ↓reduceIte, hal, h0, eqp_stk0, Tryz.f83]
    exact ⟨[], by simp⟩
  · refine wo_dcall Tryz.func83 rfl (by decide) rfl 12 rfl (fun a hal ha => ?_)
    have h0 : a[0]? = some (.loc k 0 0) := ha 0 (by simp)
    clear ha
    simp (maxSteps := 1000000) (disch := omega) only [push_cast, ↓wc_seq, ↓wc_region, ↓wr_cons, ↓wr_consgL, ↓wr_nil, ↓wo_pickL, ↓wc_ret, wo_some, opQ_eq, seqQ_normal, retQ_ret, pickO_true, gstep_tt, Nat.reduceAdd, Nat.reduceMul, Nat.reduceLT, Nat.reduceEqDiff, ↓reduceIte, planIds, List.contains_cons, List.contains_nil, Nat.reduceBEq, setC, List.length_set, reduceCtorEq, eq_self, Nat.zero_add, planIds, List.contains_cons, List.contains_nil, Nat.reduceBEq, Nat.reduceMul, Nat.reduceAdd, ↓reduceIte, hal, h0, hk, eqp_stk, eqm_legs0, Tryz.f83]
    exact ⟨[], by simp⟩
theorem lidp (id : Lid) : pureL id.enc = true := by simp [pureL_cons, pureL_nil, D.pure, Lid.enc]
theorem get0 {id : Lid} (hn : 2 ≤ n) (h : NoneAt S p) : ∃ J, callD E (dcall E n) false S 72 [p, .agg id.enc] = some (.nilp, S ++ J) := by
  obtain ⟨q, rfl⟩ : ∃ q, n = q + 1 := ⟨n - 1, by omega⟩
  refine pure0 rfl h (by simp [pureL_cons, pureL_nil, D.pure, lidp]) rfl fun S h => ?_
  have c1 := made0 (n := q) (by omega) (h.app [.row 4 [id.enc]]) false
  refine wo_dcall Tryz.func72 rfl (by decide) rfl 14 rfl (fun a hal ha => ?_)
  have h0 : a[0]? = some (p) := ha 0 (by simp)
  have h1 : a[1]? = some (.agg id.enc) := ha 1 (by simp)
  clear ha
  simp only [Lid.enc] at h1 c1
  simp (maxSteps := 1000000) (disch := omega) only [push_cast, ↓wc_seq, ↓wc_condL, ↓wc_region, ↓wr_cons, ↓wr_nil, ↓wo_callf, ↓wc_ret, wo_some, opQ_eq, seqQ_normal, seqQ_ret, retQ_ret, pickC_true, Nat.reduceAdd, Nat.reduceMul, Nat.reduceLT, ↓reduceIte, planIds, hasExt, cntFs, idxFs, clnFs, ovlFs, List.contains_cons, List.contains_nil, List.any_nil, Nat.reduceBEq, setC, List.length_set, reduceCtorEq, eq_self, Nat.zero_add, planIds, hasExt, cntFs, idxFs, clnFs, ovlFs, List.contains_cons, List.contains_nil, List.any_nil, Nat.reduceBEq, Nat.reduceMul, Nat.reduceAdd, ↓reduceIte, hal, h0, h1, c1, Tryz.f72]
  exact ⟨_, rfl⟩
theorem find0 {di : D} {cl : ByteArray} {w : Int} {b : Bool} (hdi : di.pure = true) (hn : 2 ≤ n) (h : NoneAt S p) : ∃ J, callD E (dcall E n) false S 57 [p, di, .str cl, .int .i64 w, .bool b] = some (.tup [.nils, .int .i64 1], S ++ J) := by
  obtain ⟨q, rfl⟩ : ∃ q, n = q + 1 := ⟨n - 1, by omega⟩
  refine pure0 rfl h (by simp [pureL_cons, pureL_nil, D.pure, hdi]) rfl fun S h => ?_
  have c1 := made0 (n := q) (by omega) h false
  refine wo_dcall Tryz.func57 rfl (by decide) rfl 97 rfl (fun a hal ha => ?_)
  have h0 : a[0]? = some (p) := ha 0 (by simp)
  have h1 : a[1]? = some (di) := ha 1 (by simp)
  have h2 : a[2]? = some (.str cl) := ha 2 (by simp)
  have h3 : a[3]? = some (.int .i64 w) := ha 3 (by simp)
  have h4 : a[4]? = some (.bool b) := ha 4 (by simp)
  clear ha
  simp (maxSteps := 1000000) (disch := omega) only [push_cast, ↓wc_seq, ↓wc_condL, ↓wc_region, ↓wr_cons, ↓wr_nil, ↓wo_callf, ↓wc_ret, wo_some, opQ_eq, seqQ_normal, seqQ_ret, retQ_ret, pickC_true, Nat.reduceAdd, Nat.reduceMul, Nat.reduceLT, Nat.reduceEqDiff, ↓reduceIte, planIds, hasExt, cntFs, idxFs, clnFs, ovlFs, List.contains_cons, List.contains_nil, List.any_nil, Nat.reduceBEq, setC, List.length_set, reduceCtorEq, eq_self, Nat.zero_add, planIds, hasExt, cntFs, idxFs, clnFs, ovlFs, List.contains_cons, List.contains_nil, List.any_nil, Nat.reduceBEq, Nat.reduceMul, Nat.reduceAdd, ↓reduceIte, hal, h0, c1, Tryz.f57]
  exact ⟨_, (List.append_nil _).symm⟩
theorem Left0 {id : Lid} {cl : ByteArray} (hn : 3 ≤ n) (h : NoneAt S p) (st : Bool) : callD E (dcall E n) st S 33 [p, .agg id.enc, .str cl] = some (.int .i64 0, S) := by
  obtain ⟨q, rfl⟩ : ∃ q, n = q + 1 := ⟨n - 1, by omega⟩
  refine obs0 rfl h (by simp [pureL_cons, pureL_nil, D.pure, lidp]) rfl fun S h => ?_
  obtain ⟨J, c1⟩ := get0 (n := q) (id := id) (by omega) (h.app [.row 4 [id.enc]])
  refine wo_dcall Tryz.func33 rfl (by decide) rfl 22 rfl (fun a hal ha => ?_)
  have h0 : a[0]? = some (p) := ha 0 (by simp)
  have h1 : a[1]? = some (.agg id.enc) := ha 1 (by simp)
  have h2 : a[2]? = some (.str cl) := ha 2 (by simp)
  clear ha
  simp only [Lid.enc] at h1 c1
  simp (maxSteps := 1000000) (disch := omega) only [push_cast, ↓wc_seq, ↓wc_condL, ↓wc_region, ↓wr_cons, ↓wr_consgL, ↓wr_nil, ↓wo_pickL, ↓wo_callf, ↓wc_ret, wo_some, opQ_eq, seqQ_normal, seqQ_ret, retQ_ret, pickC_true, pickO_true, gstep_tf, Nat.reduceAdd, Nat.reduceMul, Nat.reduceLT, Nat.reduceLeDiff, Nat.reduceEqDiff, ↓reduceIte, planIds, hasExt, cntFs, idxFs, clnFs, ovlFs, List.contains_cons, List.contains_nil, List.any_nil, Nat.reduceBEq, setC, List.length_set, reduceCtorEq, eq_self, Nat.zero_add, planIds, hasExt, cntFs, idxFs, clnFs, ovlFs, List.contains_cons, List.contains_nil, List.any_nil, Nat.reduceBEq, Nat.reduceMul, Nat.reduceAdd, ↓reduceIte, hal, h0, h1, c1, get_end, eqp_leg0, Tryz.f33]
  exact ⟨_, List.append_assoc _ _ _⟩
theorem Free0 {id : Lid} {cl : ByteArray} (hn : 3 ≤ n) (h : NoneAt S p) (st : Bool) : callD E (dcall E n) st S 51 [p, .agg id.enc, .str cl] = some (.int .i64 0, S) := by
  obtain ⟨q, rfl⟩ : ∃ q, n = q + 1 := ⟨n - 1, by omega⟩
  refine obs0 rfl h (by simp [pureL_cons, pureL_nil, D.pure, lidp]) rfl fun S h => ?_
  obtain ⟨J, c1⟩ := get0 (n := q) (id := id) (by omega) (h.app [.row 4 [id.enc]])
  refine wo_dcall Tryz.func51 rfl (by decide) rfl 58 rfl (fun a hal ha => ?_)
  have h0 : a[0]? = some (p) := ha 0 (by simp)
  have h1 : a[1]? = some (.agg id.enc) := ha 1 (by simp)
  have h2 : a[2]? = some (.str cl) := ha 2 (by simp)
  clear ha
  simp only [Lid.enc] at h1 c1
  simp (maxSteps := 1000000) (disch := omega) only [push_cast, ↓wc_seq, ↓wc_condL, ↓wc_region, ↓wr_cons, ↓wr_nil, ↓wo_callf, ↓wc_ret, wo_some, opQ_eq, seqQ_normal, seqQ_ret, retQ_ret, pickC_true, Nat.reduceAdd, Nat.reduceMul, Nat.reduceLT, Nat.reduceLeDiff, Nat.reduceEqDiff, ↓reduceIte, planIds, hasExt, cntFs, idxFs, clnFs, ovlFs, List.contains_cons, List.contains_nil, List.any_nil, Nat.reduceBEq, setC, List.length_set, reduceCtorEq, eq_self, Nat.zero_add, planIds, hasExt, cntFs, idxFs, clnFs, ovlFs, List.contains_cons, List.contains_nil, List.any_nil, Nat.reduceBEq, Nat.reduceMul, Nat.reduceAdd, ↓reduceIte, hal, h0, h1, c1, get_end, eqp_leg0, Tryz.f51]
  exact ⟨_, List.append_assoc _ _ _⟩
theorem Excess0 {id : Lid} (hn : 3 ≤ n) (h : NoneAt S p) (st : Bool) : callD E (dcall E n) st S 29 [p, .agg id.enc] = some (.int .i64 0, S) := by
  obtain ⟨q, rfl⟩ : ∃ q, n = q + 1 := ⟨n - 1, by omega⟩
  refine obs0 rfl h (by simp [pureL_cons, pureL_nil, D.pure, lidp]) rfl fun S h => ?_
  obtain ⟨J, c1⟩ := get0 (n := q) (id := id) (by omega) (h.app [.row 4 [id.enc]])
  refine wo_dcall Tryz.func29 rfl (by decide) rfl 38 rfl (fun a hal ha => ?_)
  have h0 : a[0]? = some (p) := ha 0 (by simp)
  have h1 : a[1]? = some (.agg id.enc) := ha 1 (by simp)
  clear ha
  simp only [Lid.enc] at h1 c1
  simp (maxSteps := 1000000) (disch := omega) only [push_cast, ↓wc_seq, ↓wc_condL, ↓wc_region, ↓wr_cons, ↓wr_nil, ↓wo_callf, ↓wc_ret, ↓wc_skip, wo_some, opQ_eq, seqQ_normal, retQ_ret, pickC_false, Nat.reduceAdd, Nat.reduceMul, Nat.reduceLT, Nat.reduceLeDiff, Nat.reduceEqDiff, ↓reduceIte, planIds, hasExt, cntFs, idxFs, clnFs, ovlFs, List.contains_cons, List.contains_nil, List.any_nil, Nat.reduceBEq, setC, List.length_set, reduceCtorEq, eq_self, Nat.zero_add, planIds, hasExt, cntFs, idxFs, clnFs, ovlFs, List.contains_cons, List.contains_nil, List.any_nil, Nat.reduceBEq, Nat.reduceMul, Nat.reduceAdd, ↓reduceIte, hal, h0, h1, c1, get_end, eqp_leg0, Tryz.f29]
  exact ⟨_, List.append_assoc _ _ _⟩
theorem Equip0 {id : Lid} (hn : 3 ≤ n) (h : NoneAt S p) (st : Bool) : callD E (dcall E n) st S 38 [p, .agg id.enc] = some (.tup [.str (ByteArray.mk #[]), .bool false], S) := by
  obtain ⟨q, rfl⟩ : ∃ q, n = q + 1 := ⟨n - 1, by omega⟩
  refine obs0 rfl h (by simp [pureL_cons, pureL_nil, D.pure, lidp]) rfl fun S h => ?_
  obtain ⟨J, c1⟩ := get0 (n := q) (id := id) (by omega) (h.app [.row 4 [id.enc]])
  refine wo_dcall Tryz.func38 rfl (by decide) rfl 17 rfl (fun a hal ha => ?_)
  have h0 : a[0]? = some (p) := ha 0 (by simp)
  have h1 : a[1]? = some (.agg id.enc) := ha 1 (by simp)
  clear ha
  simp only [Lid.enc] at h1 c1
  simp (maxSteps := 1000000) (disch := omega) only [push_cast, ↓wc_seq, ↓wc_condL, ↓wc_region, ↓wr_cons, ↓wr_nil, ↓wo_callf, ↓wc_ret, wo_some, opQ_eq, seqQ_normal, seqQ_ret, retQ_ret, pickC_true, Nat.reduceAdd, Nat.reduceMul, Nat.reduceLT, Nat.reduceLeDiff, Nat.reduceEqDiff, ↓reduceIte, planIds, hasExt, cntFs, idxFs, clnFs, ovlFs, List.contains_cons, List.contains_nil, List.any_nil, Nat.reduceBEq, setC, List.length_set, reduceCtorEq, eq_self, Nat.zero_add, planIds, hasExt, cntFs, idxFs, clnFs, ovlFs, List.contains_cons, List.contains_nil, List.any_nil, Nat.reduceBEq, Nat.reduceMul, Nat.reduceAdd, ↓reduceIte, hal, h0, h1, c1, get_end, eqp_leg0, Tryz.f38]
  exact ⟨_, List.append_assoc _ _ _⟩
theorem Counts0 {id : Lid} (hn : 3 ≤ n) (h : NoneAt S p) (st : Bool) : ∃ J, callD E (dcall E n) st S 43 [p, .agg id.enc] = some (.nils, S ++ J) := by
  obtain ⟨q, rfl⟩ : ∃ q, n = q + 1 := ⟨n - 1, by omega⟩
  refine ext0 rfl h fun S h => ?_
  obtain ⟨J, c1⟩ := get0 (n := q) (id := id) (by omega) (h.app [.row 4 [id.enc]])
  refine wo_dcall Tryz.func43 rfl (by decide) rfl 54 rfl (fun a hal ha => ?_)
  have h0 : a[0]? = some (p) := ha 0 (by simp)
  have h1 : a[1]? = some (.agg id.enc) := ha 1 (by simp)
  clear ha
  simp only [Lid.enc] at h1 c1
  simp (maxSteps := 1000000) (disch := omega) only [push_cast, ↓wc_seq, ↓wc_condL, ↓wc_region, ↓wr_cons, ↓wr_nil, ↓wo_callf, ↓wc_ret, wo_some, opQ_eq, seqQ_normal, seqQ_ret, retQ_ret, pickC_true, Nat.reduceAdd, Nat.reduceMul, Nat.reduceLT, Nat.reduceLeDiff, Nat.reduceEqDiff, ↓reduceIte, planIds, hasExt, cntFs, idxFs, clnFs, ovlFs, List.contains_cons, List.contains_nil, List.any_nil, Nat.reduceBEq, setC, List.length_set, reduceCtorEq, eq_self, Nat.zero_add, planIds, hasExt, cntFs, idxFs, clnFs, ovlFs, List.contains_cons, List.contains_nil, List.any_nil, Nat.reduceBEq, Nat.reduceMul, Nat.reduceAdd, ↓reduceIte, hal, h0, h1, c1, get_end, eqp_leg0, Tryz.f43]
  exact ⟨_, List.append_assoc _ _ _⟩
theorem Legs0 (hn : 3 ≤ n) (h : NoneAt S p) (st : Bool) : ∃ J, callD E (dcall E n) st S 52 [p] = some (.nils, S ++ J) := by
  obtain ⟨q, rfl⟩ : ∃ q, n = q + 1 := ⟨n - 1, by omega⟩
  refine ext0 rfl h fun S h => ?_
  have c1 := made0 (n := q) (by omega) h false
  refine wo_dcall Tryz.func52 rfl (by decide) rfl 24 rfl (fun a hal ha => ?_)
  have h0 : a[0]? = some (p) := ha 0 (by simp)
  clear ha
  simp (maxSteps := 1000000) (disch := omega) only [push_cast, ↓wc_seq, ↓wc_condL, ↓wc_region, ↓wr_cons, ↓wr_nil, ↓wo_callf, ↓wc_ret, wo_some, opQ_eq, seqQ_normal, seqQ_ret, retQ_ret, pickC_true, Nat.reduceAdd, Nat.reduceMul, Nat.reduceLT, ↓reduceIte, planIds, hasExt, cntFs, idxFs, clnFs, ovlFs, List.contains_cons, List.contains_nil, List.any_nil, Nat.reduceBEq, setC, List.length_set, reduceCtorEq, eq_self, Nat.zero_add, planIds, hasExt, cntFs, idxFs, clnFs, ovlFs, List.contains_cons, List.contains_nil, List.any_nil, Nat.reduceBEq, Nat.reduceMul, Nat.reduceAdd, ↓reduceIte, hal, h0, c1, Tryz.f52]
  exact ⟨_, (List.append_nil _).symm⟩
theorem Copy0 (hn : 3 ≤ n) (h : NoneAt S p) (st : Bool) : ∃ J, callD E (dcall E n) st S 41 [p] = some (.nilp, S ++ J) := by
  obtain ⟨q, rfl⟩ : ∃ q, n = q + 1 := ⟨n - 1, by omega⟩
  refine gen0 rfl h fun S h => ?_
  have c1 := made0 (n := q) (by omega) h false
  refine wo_dcall Tryz.func41 rfl (by decide) rfl 67 rfl (fun a hal ha => ?_)
  have h0 : a[0]? = some (p) := ha 0 (by simp)
  clear ha
  simp (maxSteps := 1000000) (disch := omega) only [push_cast, ↓wc_seq, ↓wc_condL, ↓wc_region, ↓wr_cons, ↓wr_nil, ↓wo_callf, ↓wc_ret, wo_some, opQ_eq, seqQ_normal, seqQ_ret, retQ_ret, pickC_true, Nat.reduceAdd, Nat.reduceMul, Nat.reduceLT, ↓reduceIte, planIds, hasExt, cntFs, idxFs, clnFs, ovlFs, List.contains_cons, List.contains_nil, List.any_nil, Nat.reduceBEq, setC, List.length_set, reduceCtorEq, eq_self, Nat.zero_add, planIds, hasExt, cntFs, idxFs, clnFs, ovlFs, List.contains_cons, List.contains_nil, List.any_nil, Nat.reduceBEq, Nat.reduceMul, Nat.reduceAdd, ↓reduceIte, hal, h0, c1, Tryz.f41]
  exact ⟨_, (List.append_nil _).symm⟩
theorem Open0 {id : Lid} {e : ByteArray} (hn : 3 ≤ n) (h : NoneAt S p) (st : Bool) : ∃ J, callD E (dcall E n) st S 48 [p, .agg id.enc, .str e] = some (.int .i64 1, S ++ J) := by
  obtain ⟨q, rfl⟩ : ∃ q, n = q + 1 := ⟨n - 1, by omega⟩
  refine gen0 rfl h fun S h => ?_
  have c1 := made0 (n := q) (by omega) (h.app [.row 4 [id.enc]]) false
  refine wo_dcall Tryz.func48 rfl (by decide) rfl 40 rfl (fun a hal ha => ?_)
  have h0 : a[0]? = some (p) := ha 0 (by simp)
  have h1 : a[1]? = some (.agg id.enc) := ha 1 (by simp)
  have h2 : a[2]? = some (.str e) := ha 2 (by simp)
  clear ha
  simp only [Lid.enc] at h1 c1
  simp (maxSteps := 1000000) (disch := omega) only [push_cast, ↓wc_seq, ↓wc_condL, ↓wc_region, ↓wr_cons, ↓wr_nil, ↓wo_callf, ↓wc_ret, wo_some, opQ_eq, seqQ_normal, seqQ_ret, retQ_ret, pickC_true, Nat.reduceAdd, Nat.reduceMul, Nat.reduceLT, ↓reduceIte, planIds, hasExt, cntFs, idxFs, clnFs, ovlFs, List.contains_cons, List.contains_nil, List.any_nil, Nat.reduceBEq, setC, List.length_set, reduceCtorEq, eq_self, Nat.zero_add, planIds, hasExt, cntFs, idxFs, clnFs, ovlFs, List.contains_cons, List.contains_nil, List.any_nil, Nat.reduceBEq, Nat.reduceMul, Nat.reduceAdd, ↓reduceIte, hal, h0, h1, c1, Tryz.f48]
  exact ⟨_, rfl⟩
theorem Resize0 {id : Lid} {e : ByteArray} (hn : 3 ≤ n) (h : NoneAt S p) (st : Bool) : ∃ J, callD E (dcall E n) st S 39 [p, .agg id.enc, .str e] = some (.int .i64 1, S ++ J) := by
  obtain ⟨q, rfl⟩ : ∃ q, n = q + 1 := ⟨n - 1, by omega⟩
  refine gen0 rfl h fun S h => ?_
  have c1 := made0 (n := q) (by omega) (h.app [.row 4 [id.enc]]) false
  refine wo_dcall Tryz.func39 rfl (by decide) rfl 112 rfl (fun a hal ha => ?_)
  have h0 : a[0]? = some (p) := ha 0 (by simp)
  have h1 : a[1]? = some (.agg id.enc) := ha 1 (by simp)
  have h2 : a[2]? = some (.str e) := ha 2 (by simp)
  clear ha
  simp only [Lid.enc] at h1 c1
  simp (maxSteps := 1000000) (disch := omega) only [push_cast, ↓wc_seq, ↓wc_condL, ↓wc_region, ↓wr_cons, ↓wr_nil, ↓wo_callf, ↓wc_ret, wo_some, opQ_eq, seqQ_normal, seqQ_ret, retQ_ret, pickC_true, Nat.reduceAdd, Nat.reduceMul, Nat.reduceLT, ↓reduceIte, planIds, hasExt, cntFs, idxFs, clnFs, ovlFs, List.contains_cons, List.contains_nil, List.any_nil, Nat.reduceBEq, setC, List.length_set, reduceCtorEq, eq_self, Nat.zero_add, planIds, hasExt, cntFs, idxFs, clnFs, ovlFs, List.contains_cons, List.contains_nil, List.any_nil, Nat.reduceBEq, Nat.reduceMul, Nat.reduceAdd, ↓reduceIte, hal, h0, h1, c1, Tryz.f39]
  exact ⟨_, rfl⟩
theorem Close0 {id : Lid} (hn : 3 ≤ n) (h : NoneAt S p) (st : Bool) : ∃ J, callD E (dcall E n) st S 49 [p, .agg id.enc] = some (.int .i64 1, S ++ J) := by
  obtain ⟨q, rfl⟩ : ∃ q, n = q + 1 := ⟨n - 1, by omega⟩
  refine gen0 rfl h fun S h => ?_
  have c1 := made0 (n := q) (by omega) (h.app [.row 4 [id.enc]]) false
  refine wo_dcall Tryz.func49 rfl (by decide) rfl 26 rfl (fun a hal ha => ?_)
  have h0 : a[0]? = some (p) := ha 0 (by simp)
  have h1 : a[1]? = some (.agg id.enc) := ha 1 (by simp)
  clear ha
  simp only [Lid.enc] at h1 c1
  simp (maxSteps := 1000000) (disch := omega) only [push_cast, ↓wc_seq, ↓wc_condL, ↓wc_region, ↓wr_cons, ↓wr_nil, ↓wo_callf, ↓wc_ret, wo_some, opQ_eq, seqQ_normal, seqQ_ret, retQ_ret, pickC_true, Nat.reduceAdd, Nat.reduceMul, Nat.reduceLT, ↓reduceIte, planIds, hasExt, cntFs, idxFs, clnFs, ovlFs, List.contains_cons, List.contains_nil, List.any_nil, Nat.reduceBEq, setC, List.length_set, reduceCtorEq, eq_self, Nat.zero_add, planIds, hasExt, cntFs, idxFs, clnFs, ovlFs, List.contains_cons, List.contains_nil, List.any_nil, Nat.reduceBEq, Nat.reduceMul, Nat.reduceAdd, ↓reduceIte, hal, h0, h1, c1, Tryz.f49]
  exact ⟨_, rfl⟩
theorem Sell0 {di : D} {cl : ByteArray} {w : Int} (hdi : di.pure = true) (hn : 3 ≤ n) (h : NoneAt S p) (st : Bool) : ∃ J, callD E (dcall E n) st S 20 [p, di, .str cl, .int .i64 w] = some (.int .i64 1, S ++ J) := by
  obtain ⟨q, rfl⟩ : ∃ q, n = q + 1 := ⟨n - 1, by omega⟩
  refine gen0 rfl h fun S h => ?_
  obtain ⟨J, c1⟩ := find0 (n := q) (di := di) (cl := cl) (w := w) (b := true) hdi (by omega) ((h.app [.row 1 [[.str cl]]]).app [.row 1 [[.int .i64 w]]])
  refine wo_dcall Tryz.func20 rfl (by decide) rfl 60 rfl (fun a hal ha => ?_)
  have h0 : a[0]? = some (p) := ha 0 (by simp)
  have h1 : a[1]? = some (di) := ha 1 (by simp)
  have h2 : a[2]? = some (.str cl) := ha 2 (by simp)
  have h3 : a[3]? = some (.int .i64 w) := ha 3 (by simp)
  clear ha
  simp (maxSteps := 1000000) (disch := omega) only [push_cast, ↓wc_seq, ↓wc_condL, ↓wc_region, ↓wr_cons, ↓wr_nil, ↓wo_callf, ↓wc_ret, wo_some, opQ_eq, seqQ_normal, seqQ_ret, retQ_ret, pickC_true, int_bne, Nat.reduceAdd, Nat.reduceMul, Nat.reduceLT, Nat.reduceEqDiff, Int.reduceEq, ↓reduceIte, planIds, hasExt, cntFs, idxFs, clnFs, ovlFs, List.contains_cons, List.contains_nil, List.any_nil, Nat.reduceBEq, setC, List.length_set, reduceCtorEq, eq_self, Nat.zero_add, not_false_eq_true, planIds, hasExt, cntFs, idxFs, clnFs, ovlFs, List.contains_cons, List.contains_nil, List.any_nil, Nat.reduceBEq, Nat.reduceMul, Nat.reduceAdd, ↓reduceIte, hal, h0, h1, h2, h3, c1, get_end, get_end0, Tryz.f20]
  exact ⟨_, by rw [List.append_assoc, List.append_assoc]⟩
theorem Cancel0 {di : D} {cl : ByteArray} {w : Int} (hdi : di.pure = true) (hn : 3 ≤ n) (h : NoneAt S p) (st : Bool) : ∃ J, callD E (dcall E n) st S 50 [p, di, .str cl, .int .i64 w] = some (.int .i64 1, S ++ J) := by
  obtain ⟨q, rfl⟩ : ∃ q, n = q + 1 := ⟨n - 1, by omega⟩
  refine gen0 rfl h fun S h => ?_
  obtain ⟨J, c1⟩ := find0 (n := q) (di := di) (cl := cl) (w := w) (b := false) hdi (by omega) h
  refine wo_dcall Tryz.func50 rfl (by decide) rfl 91 rfl (fun a hal ha => ?_)
  have h0 : a[0]? = some (p) := ha 0 (by simp)
  have h1 : a[1]? = some (di) := ha 1 (by simp)
  have h2 : a[2]? = some (.str cl) := ha 2 (by simp)
  have h3 : a[3]? = some (.int .i64 w) := ha 3 (by simp)
  clear ha
  simp (maxSteps := 1000000) (disch := omega) only [push_cast, ↓wc_seq, ↓wc_condL, ↓wc_region, ↓wr_cons, ↓wr_nil, ↓wo_callf, ↓wc_ret, wo_some, opQ_eq, seqQ_normal, seqQ_ret, retQ_ret, pickC_true, int_bne, Nat.reduceAdd, Nat.reduceMul, Nat.reduceLT, Nat.reduceEqDiff, Int.reduceEq, ↓reduceIte, planIds, hasExt, cntFs, idxFs, clnFs, ovlFs, List.contains_cons, List.contains_nil, List.any_nil, Nat.reduceBEq, setC, List.length_set, reduceCtorEq, eq_self, Nat.zero_add, not_false_eq_true, planIds, hasExt, cntFs, idxFs, clnFs, ovlFs, List.contains_cons, List.contains_nil, List.any_nil, Nat.reduceBEq, Nat.reduceMul, Nat.reduceAdd, ↓reduceIte, hal, h0, h1, h2, h3, c1, Tryz.f50]
  exact ⟨_, by rfl⟩
end
end Go.Proofs.YtlamgjbngblefaaGreatDoor.Dm
