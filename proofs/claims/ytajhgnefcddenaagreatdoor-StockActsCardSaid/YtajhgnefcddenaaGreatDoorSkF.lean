/-
  The machine at the program's inventory: the legs of a sale.
  The machine at the program's inventory: Sell and Cancel.
  The machine at the program's inventory: Resize.
-/
import Derived.Test.YtajhgnefcddenaaGreatDoorSkW
namespace Go.Proofs.YtajhgnefcddenaaGreatDoor.Dm
open Go Gw
set_option linter.unusedSimpArgs false
set_option linter.unusedSimpArgs false

abbrev encP (p : Nat) : List D := [.loc p 0 0]
theorem el_ptr : elemT Tryz.prog 143 = some 116 := by kernel_rfl
theorem sz_ptr : sizeT Tryz.prog 116 = some 1 := by kernel_rfl
theorem ze_ptr : zeroT Tryz.prog 116 = some .nilp := by kernel_rfl
theorem by_ptr : bytesT Tryz.prog 116 ≤ 100000 := by
  have : bytesT Tryz.prog 116 = 8 := by kernel_rfl
  rw [this]; omega
theorem app_ptr {S : List Ob} {d : D} {l : List Nat} (h : GL 1 encP S d l) (hl : l.length ≤ 100000) (p : Nat) :
    ∃ S', dAppend Tryz.prog S 143 143 d (.sl 1 [[.loc p 0 0]] true) = some (.os S.length 0 (l.length + 1) false, S') ∧ GL 1 encP S' (.os S.length 0 (l.length + 1) false) (l ++ [p]) ∧ S'.length = S.length + 1 ∧ (∀ k o, (∀ n, d = .os k 0 n false → False) → S[k]? = some o → S'[k]? = some o) ∧ (∀ (k sz : Nat) (es : List (List D)), sz ≠ 1 → S[k]? = some (.row sz es) → S'[k]? = some (.row sz es)) :=
  app_gl el_ptr sz_ptr ze_ptr rfl by_ptr h hl p
set_option maxHeartbeats 4000000 in
set_option maxRecDepth 100000 in
theorem idxP_d {n k g : Nat} {xs ys : List D} {pr : Nat → Bool} {l : List Nat} {S : List Ob} (hl : l.length ≤ 100) (hn : 110 ≤ n) (hk : S[k]? = some (.row 1 (l.map encP)))
    (hg : ∀ p ∈ l, callD E (dcall E n) false S g (xs ++ [.loc p 0 0] ++ ys) = some (.bool (pr p), S)) :
    WO (dcall E (n + 1) 125 [.os k 0 l.length false, .func g xs ys] S) fun r T => r = .int .i64 (fdx pr 0 l) ∧ T = S := by
  refine wo_dcall Tryz.func125 rfl (by decide) rfl 19 rfl (fun a hal ha => ?_)
  have h0 : a[0]? = some (.os k 0 l.length false) := ha 0 (by simp)
  have h1 : a[1]? = some (.func g xs ys) := ha 1 (by simp)
  clear ha
  simp (maxSteps := 1000000) (disch := omega) only [push_cast, ↓wc_seq, ↓wc_block, ↓wc_region, ↓wr_cons, ↓wr_nil, ↓wc_wl, wo_some, opQ_eq, seqQ_normal, Nat.reduceAdd, Nat.reduceMul, Nat.reduceLT, Int.reduceNeg, ↓reduceIte, planIds, List.contains_cons, List.contains_nil, Nat.reduceBEq, setC, List.length_set, reduceCtorEq, eq_self, Nat.zero_add, hal, h0]
  refine wl_loop (fun i a T => T = S ∧ a.length = 19 ∧ a[0]? = some (.os k 0 l.length false) ∧ a[1]? = some (.func g xs ys) ∧ a[7]? = some (.int .i64 l.length) ∧ a[8]? = some (.int .i64 i) ∧ fdx pr 0 l = fdx pr i (l.drop i)) l.length ?_ (by omega) ?_
  · simp (maxSteps := 1000000) (disch := omega) only [push_cast, Nat.reduceLT, Nat.reduceEqDiff, ↓reduceIte, setC, List.length_set, reduceCtorEq, eq_self, hal, h0, h1, Int.natCast_zero]
  clear hal h0 h1 a
  rintro i a T hi ⟨rfl, hal, h0, h1, h7, h8, hv⟩
  rcases Nat.lt_or_eq_of_le hi with hlt | rfl
  case inr =>
    rw [List.drop_length, fdx] at hv
    simp (maxSteps := 1000000) (disch := omega) only [push_cast, ↓wc_seq, ↓wc_condL, ↓wc_region, ↓wr_cons, ↓wr_nil, ↓wc_exit, ↓wc_ret, wo_some, opQ_eq, seqQ_normal, seqQ_exit, blockQ_exit, iterQ_exit, retQ_ret, pickC_false, Nat.reduceAdd, Nat.reduceMul, Nat.reduceLT, Int.reduceNeg, ↓reduceIte, planIds, List.contains_cons, List.contains_nil, Nat.reduceBEq, setC, List.length_set, eq_self, Int.ofNat_lt, D.int.injEq, Nat.zero_add, hal, h7, h8, Nat.lt_irrefl, Tryz.f125]
    exact hv.symm
  obtain ⟨v, hq⟩ : ∃ v, l[i]? = some v := ⟨l[i], by simp⟩
  rw [drop_at hq, fdx] at hv
  have cv := hg v (List.mem_of_getElem? hq)
  cases hp : pr v
  · rw [hp, if_neg (by simp)] at hv
    rw [hp] at cv
    simp (maxSteps := 1000000) (disch := omega) only [push_cast, ↓wc_seq, ↓wc_block, ↓wc_condL, ↓wc_region, ↓wr_cons, ↓wr_nil, ↓wc_skip, wo_some, opQ_eq, seqQ_normal, blockQ_normal, iterQ_normal, pickC_true, pickC_false, Nat.reduceAdd, Nat.reduceMul, Nat.reduceLT, Nat.reduceEqDiff, Int.reduceNeg, ↓reduceIte, planIds, List.contains_cons, List.contains_nil, Nat.reduceBEq, setC, List.length_set, reduceCtorEq, eq_self, Int.natCast_nonneg, Int.toNat_natCast, Int.ofNat_lt, Nat.zero_add, hal, h0, h1, h7, h8, ↓wo_callv, callV_func, hlt, hq, hk, List.getElem?_map, cv, wrap_ok, Int.natCast_add, Int.natCast_one]
    exact hv
  · rw [hp, if_pos rfl] at hv
    rw [hp] at cv
    simp (maxSteps := 1000000) (disch := omega) only [push_cast, ↓wc_seq, ↓wc_block, ↓wc_condL, ↓wc_region, ↓wr_cons, ↓wr_nil, ↓wc_ret, ↓wc_skip, wo_some, opQ_eq, seqQ_normal, seqQ_ret, blockQ_ret, iterQ_ret, retQ_ret, pickC_true, Nat.reduceAdd, Nat.reduceMul, Nat.reduceLT, Nat.reduceEqDiff, Int.reduceNeg, ↓reduceIte, planIds, List.contains_cons, List.contains_nil, Nat.reduceBEq, setC, List.length_set, reduceCtorEq, eq_self, Int.natCast_nonneg, Int.toNat_natCast, Int.ofNat_lt, D.int.injEq, Nat.zero_add, hal, h0, h1, h7, h8, ↓wo_callv, callV_func, hlt, hq, hk, List.getElem?_map, cv, Tryz.f125]
    exact hv.symm
theorem hasP_c {n k g : Nat} {xs ys : List D} {pr : Nat → Bool} {l : List Nat} {S : List Ob} (hl : l.length ≤ 100) (hn : 112 ≤ n) (hk : S[k]? = some (.row 1 (l.map encP)))
    (hg : ∀ p ∈ l, callD E (dcall E (n - 2)) false S g (xs ++ [.loc p 0 0] ++ ys) = some (.bool (pr p), S)) :
    callD E (dcall E n) false S 84 [.os k 0 l.length false, .func g xs ys] = some (.bool (l.any pr), S) := by
  obtain ⟨m, rfl⟩ : ∃ m, n = m + 2 := ⟨n - 2, by omega⟩
  obtain ⟨_, T', ho, rfl, rfl⟩ := idxP_d hl (by omega) hk hg
  have q1 := (callD_own (f := 125) rfl (by simp [pureL_cons, D.pure])).trans ho
  rw [Nat.add_sub_cancel] at q1
  have : WO (dcall E (m + 2) 84 [.os k 0 l.length false, .func g xs ys] T') fun r U => r = .bool (l.any pr) ∧ U = T' := by
    refine wo_dcall Tryz.func84 rfl (by decide) rfl 9 rfl (fun a hal ha => ?_)
    have h0 : a[0]? = some (.os k 0 l.length false) := ha 0 (by simp)
    have h1 : a[1]? = some (.func g xs ys) := ha 1 (by simp)
    clear ha
    rw [← fdx_any pr l 0]
    simp (maxSteps := 1000000) (disch := omega) only [push_cast, ↓wc_seq, ↓wc_region, ↓wr_cons, ↓wr_nil, ↓wo_callf, ↓wc_ret, wo_some, opQ_eq, seqQ_normal, retQ_ret, Nat.reduceAdd, Nat.reduceMul, Nat.reduceLT, Nat.reduceEqDiff, ↓reduceIte, planIds, hasExt, cntFs, idxFs, clnFs, ovlFs, List.contains_cons, List.contains_nil, List.any_cons, List.any_nil, Nat.reduceBEq, setC, List.length_set, reduceCtorEq, eq_self, Nat.zero_add, hal, h0, h1, q1, ge_iff_le, Tryz.f84]
  obtain ⟨_, U, ho, rfl, rfl⟩ := this
  exact (callD_own rfl (by simp [pureL_cons, D.pure])).trans ho
theorem find1_c {n p : Nat} {c0 c1 c2 : D} {b : Bool} {S : List Ob} (hn : 1 ≤ n) (hp : S[p]? = some (.row 4 [[c0, c1, c2, .bool b]])) : callD E (dcall E n) false S 124 [.loc p 0 0] = some (.bool b, S) := by
  obtain ⟨m, rfl⟩ : ∃ m, n = m + 1 := ⟨n - 1, by omega⟩
  have : WO (dcall E (m + 1) 124 [.loc p 0 0] S) fun r T => r = .bool b ∧ T = S := by
    refine wo_dcall Tryz.func124 rfl (by decide) rfl 7 rfl (fun a hal ha => ?_)
    have h0 : a[0]? = some (.loc p 0 0) := ha 0 (by simp)
    clear ha
    simp (maxSteps := 1000000) (disch := omega) only [push_cast, ↓wc_seq, ↓wc_region, ↓wr_cons, ↓wr_nil, ↓wc_ret, wo_some, opQ_eq, seqQ_normal, retQ_ret, Nat.reduceAdd, Nat.reduceMul, Nat.reduceLT, ↓reduceIte, planIds, List.contains_cons, List.contains_nil, Nat.reduceBEq, setC, List.length_set, reduceCtorEq, eq_self, Nat.zero_add, hal, h0, hp, Tryz.f124]
  obtain ⟨_, U, ho, rfl, rfl⟩ := this
  exact (callD_own rfl rfl).trans ho

/-! ### The legs of a sale -/
def clB (U : List Ob) (p : Nat) : Bool := match U[p]? with
  | some (.row _ [[_, _, _, .bool b]]) => b
  | _ => false
structure PtrAt (S : List Ob) (lab : Lab) (o : Nat) (s : Stk) (ps : List (D × D)) (cl : ByteArray) (id : Lid) (p : Nat) : Prop where
  x : ∃ i x q, s.legs[i]? = some (id, x) ∧ ps[i]? = some (.agg id.enc, .loc p 0 0) ∧ s.get id = some x ∧ LegAt S lab o i p x ∧ placeF cl 0 x.cfg.cabs = some q
section
variable {S : List Ob} {lab : Lab} {o k m n : Nat} {s : Stk} {ps : List (D × D)} {ids : List Lid}
theorem mem_at {α : Type} {l : List α} {i : Nat} {x : α} (h : l[i]? = some x) : x ∈ l := List.mem_of_getElem? h
set_option maxHeartbeats 8000000 in
set_option maxRecDepth 100000 in
theorem find_d (hn : 180 ≤ n) (h : StkAt S lab o kL (.loc k 0 0) s k m ps) (ok : StkOk 9999 s) (hl : ids.length ≤ 20) (hids : ∀ id ∈ ids, id.Ok) {di : D} (hdi : FLs 4 Lid.enc di ids) (cl : ByteArray) (w : Int) (sale : Bool) :
    WO (dcall E (n + 1) 83 [.loc k 0 0, di, .str cl, .int .i64 w, .bool sale] S) fun r T => ∃ d, r = .tup [d, .int .i64 (s.named ids cl w sale)] ∧ ExtS S T ∧
      (s.named ids cl w sale = 0 → ∃ (q : Nat) (pl : List Nat), d = .os q 0 pl.length false ∧ S.length ≤ q ∧ T[q]? = some (.row 1 (pl.map encP)) ∧ pl.length = ids.length ∧ ∀ (j : Nat) (id : Lid) (p : Nat), ids[j]? = some id → pl[j]? = some p → PtrAt T lab o s ps cl id p) := by
  refine wo_dcall Tryz.func83 rfl (by decide) rfl 97 rfl (fun a hal ha => ?_)
  have h0 : a[0]? = some (.loc k 0 0) := ha 0 (by simp)
  have h1 : a[1]? = some (di) := ha 1 (by simp)
  have h2 : a[2]? = some (.str cl) := ha 2 (by simp)
  have h3 : a[3]? = some (.int .i64 w) := ha 3 (by simp)
  have h4 : a[4]? = some (.bool sale) := ha 4 (by simp)
  clear ha
  have cm := made_c (n := n) (by omega) h.row
  by_cases b1 : w < 1
  · rw [named_arg (.inl b1)]
    rcases hdi with ⟨rfl, rfl⟩ | ⟨x, rfl⟩
    · simp (maxSteps := 1000000) (disch := omega) only [push_cast, ↓wc_seq, ↓wc_condL, ↓wc_region, ↓wr_cons, ↓wr_consgL, ↓wr_nil, ↓wo_pickL, ↓wo_callf, ↓wc_ret, ↓wc_skip, wo_some, opQ_eq, seqQ_normal, seqQ_ret, retQ_ret, pickC_true, pickC_false, pickO_true, gstep_tf, Nat.reduceAdd, Nat.reduceMul, Nat.reduceLT, Nat.reduceEqDiff, Int.reduceEq, ↓reduceIte, planIds, hasExt, cntFs, idxFs, clnFs, ovlFs, List.contains_cons, List.contains_nil, List.any_cons, List.any_nil, Nat.reduceBEq, setC, List.length_set, false_implies, reduceCtorEq, eq_self, Nat.zero_add, hal, h0, h3, cm, b1, dUn, Tryz.f83]
      exact ⟨_, rfl, ExtS.refl⟩
    · simp (maxSteps := 1000000) (disch := omega) only [push_cast, ↓wc_seq, ↓wc_condL, ↓wc_region, ↓wr_cons, ↓wr_consgL, ↓wr_nil, ↓wo_pickL, ↓wo_callf, ↓wc_ret, ↓wc_skip, wo_some, opQ_eq, seqQ_normal, seqQ_ret, retQ_ret, pickC_true, pickC_false, pickO_true, gstep_tf, Nat.reduceAdd, Nat.reduceMul, Nat.reduceLT, Nat.reduceEqDiff, Int.reduceEq, ↓reduceIte, planIds, hasExt, cntFs, idxFs, clnFs, ovlFs, List.contains_cons, List.contains_nil, List.any_cons, List.any_nil, Nat.reduceBEq, setC, List.length_set, false_implies, reduceCtorEq, eq_self, Nat.zero_add, hal, h0, h3, cm, b1, dUn, Tryz.f83]
      exact ⟨_, rfl, ExtS.refl⟩
  by_cases b2 : ids = []
  · rw [named_arg (.inr b2)]
    subst b2
    rcases hdi with ⟨rfl, -⟩ | ⟨x, rfl⟩
    · simp (maxSteps := 1000000) (disch := omega) only [push_cast, ↓wc_seq, ↓wc_condL, ↓wc_region, ↓wr_cons, ↓wr_consgL, ↓wr_nil, ↓wo_pickL, ↓wo_callf, ↓wc_ret, ↓wc_skip, wo_some, opQ_eq, seqQ_normal, seqQ_ret, retQ_ret, pickC_true, pickC_false, pickO_false, gstep_ff, int_beq, Nat.reduceAdd, Nat.reduceMul, Nat.reduceLT, Nat.reduceEqDiff, Int.reduceEq, ↓reduceIte, planIds, hasExt, cntFs, idxFs, clnFs, ovlFs, List.contains_cons, List.contains_nil, List.any_cons, List.any_nil, Nat.reduceBEq, setC, List.length_set, false_implies, reduceCtorEq, eq_self, Nat.zero_add, hal, h0, h1, h3, cm, b1, dUn, Tryz.f83]
      exact ⟨_, rfl, ExtS.refl⟩
    · simp (maxSteps := 1000000) (disch := omega) only [push_cast, ↓wc_seq, ↓wc_condL, ↓wc_region, ↓wr_cons, ↓wr_consgL, ↓wr_nil, ↓wo_pickL, ↓wo_callf, ↓wc_ret, ↓wc_skip, wo_some, opQ_eq, seqQ_normal, seqQ_ret, retQ_ret, pickC_true, pickC_false, pickO_false, gstep_ff, int_beq, Nat.reduceAdd, Nat.reduceMul, Nat.reduceLT, Nat.reduceEqDiff, Int.reduceEq, ↓reduceIte, planIds, hasExt, cntFs, idxFs, clnFs, ovlFs, List.contains_cons, List.contains_nil, List.any_cons, List.any_nil, Nat.reduceBEq, setC, List.length_set, false_implies, reduceCtorEq, eq_self, Nat.zero_add, hal, h0, h1, h3, cm, b1, dUn, Int.natCast_zero, Tryz.f83]
      exact ⟨_, rfl, ExtS.refl⟩
  have b0 : ¬ (w < 1 ∨ ids = []) := by rintro (h | h); exact b1 h; exact b2 h
  obtain ⟨x, rfl⟩ : ∃ x, di = .sl 4 (ids.map Lid.enc) x := by
    rcases hdi with ⟨-, e⟩ | h
    · exact absurd e b2
    · exact h
  have b3 : ¬ (ids.length : Int) = 0 := fun e => b2 (List.eq_nil_of_length_eq_zero (by omega))
  simp (maxSteps := 1000000) (disch := omega) only [push_cast, ↓wc_seq, ↓wc_block, ↓wc_condL, ↓wc_region, ↓wr_cons, ↓wr_consgL, ↓wr_nil, ↓wo_pickL, ↓wo_callf, ↓wc_skip, ↓wc_wl, wo_some, opQ_eq, seqQ_normal, pickC_false, pickO_false, gstep_ff, int_beq, Nat.reduceAdd, Nat.reduceMul, Nat.reduceLT, Nat.reduceEqDiff, ↓reduceIte, planIds, hasExt, cntFs, idxFs, clnFs, ovlFs, List.contains_cons, List.contains_nil, List.any_cons, List.any_nil, Nat.reduceBEq, setC, List.length_set, reduceCtorEq, eq_self, Nat.zero_add, hal, h0, h1, h3, cm, b1, b3, dUn, List.length_map]
  refine wl_loop (fun i a T => T = S ∧ a.length = 97 ∧ a[0]? = some (.loc k 0 0) ∧ a[1]? = some (.sl 4 (ids.map Lid.enc) x) ∧ a[2]? = some (.str cl) ∧ a[4]? = some (.bool sale) ∧ a[34]? = some (.int .i64 ids.length) ∧ a[35]? = some (.int .i64 i) ∧ (ids.take i).Nodup) ids.length ?_ (by omega) ?_
  · simp (maxSteps := 1000000) (disch := omega) only [push_cast, Nat.reduceLT, Nat.reduceEqDiff, ↓reduceIte, setC, List.length_set, reduceCtorEq, eq_self, hal, h0, h1, h2, h4, Int.natCast_zero, List.take_zero, List.nodup_nil]
  clear hal h0 h1 h2 h3 h4 a
  rintro i a T hi ⟨rfl, hal, h0, h1, h2, h4, h34, h35, hnd⟩
  rcases Nat.lt_or_eq_of_le hi with hlt | rfl
  · obtain ⟨id, hq⟩ : ∃ id, ids[i]? = some id := ⟨ids[i], by simp⟩
    simp (maxSteps := 1000000) (disch := omega) only [push_cast, ↓wc_seq, ↓wc_block, ↓wc_condL, ↓wc_region, ↓wr_cons, ↓wr_nil, ↓wc_skip, ↓wc_wl, wo_some, opQ_eq, seqQ_normal, pickC_true, Nat.reduceAdd, Nat.reduceMul, Nat.reduceLT, Nat.reduceEqDiff, ↓reduceIte, planIds, List.contains_cons, List.contains_nil, Nat.reduceBEq, setC, List.length_set, eq_self, Int.ofNat_lt, Nat.zero_add, hal, h34, h35, hlt]
    refine wl_loop (fun j a U => U = T ∧ a.length = 97 ∧ a[0]? = some (.loc k 0 0) ∧ a[1]? = some (.sl 4 (ids.map Lid.enc) x) ∧ a[2]? = some (.str cl) ∧ a[4]? = some (.bool sale) ∧ a[12]? = some (.int .i64 i) ∧ a[34]? = some (.int .i64 ids.length) ∧ a[35]? = some (.int .i64 i) ∧ a[38]? = some (.int .i64 i) ∧ a[39]? = some (.int .i64 j) ∧ ∀ k, k < j → ids[k]? ≠ some id) i ?_ (by omega) ?_
    · simp (maxSteps := 1000000) (disch := omega) only [push_cast, Nat.reduceLT, Nat.reduceEqDiff, ↓reduceIte, setC, List.length_set, reduceCtorEq, eq_self, ne_eq, hal, h0, h1, h2, h4, h34, h35, Int.natCast_zero]
      exact fun k hk => by omega
    clear hal h0 h1 h2 h4 h34 h35 a
    rintro j a U hj ⟨rfl, hal, h0, h1, h2, h4, h12, h34, h35, h38, h39, hne⟩
    rcases Nat.lt_or_eq_of_le hj with hlj | rfl
    case inr =>
      simp (maxSteps := 1000000) (disch := omega) only [push_cast, ↓wc_seq, ↓wc_condL, ↓wc_region, ↓wr_cons, ↓wr_nil, ↓wc_exit, wo_some, opQ_eq, seqQ_normal, seqQ_exit, blockQ_normal, blockQ_exit, iterQ_normal, iterQ_exit, pickC_false, Nat.reduceAdd, Nat.reduceMul, Nat.reduceLT, Nat.reduceEqDiff, ↓reduceIte, planIds, List.contains_cons, List.contains_nil, Nat.reduceBEq, setC, List.length_set, reduceCtorEq, eq_self, Int.ofNat_lt, Nat.zero_add, ne_eq, hal, h0, h1, h2, h4, h34, h35, h38, h39, Nat.lt_irrefl, hlt, wrap_ok, Int.natCast_add, Int.natCast_one]
      exact take_nodup hnd hq hne
    obtain ⟨id', hq'⟩ : ∃ id', ids[j]? = some id' := ⟨ids[j]'(by omega), by simp⟩
    have he := eq_lid id' id
    have hpl := plain_lid
    by_cases e : id' = id
    · subst e
      rw [named_twice b0 (dup_of hlj hq' hq)]
      rw [decide_eq_true rfl] at he
      simp only [Lid.enc] at he
      simp (maxSteps := 1000000) (disch := omega) only [push_cast, ↓wc_seq, ↓wc_block, ↓wc_condL, ↓wc_region, ↓wr_cons, ↓wr_nil, ↓wc_ret, ↓wc_skip, wo_some, opQ_eq, seqQ_normal, seqQ_ret, blockQ_ret, iterQ_ret, retQ_ret, pickC_true, Nat.reduceAdd, Nat.reduceMul, Nat.reduceLT, Nat.reduceLeDiff, Nat.reduceEqDiff, Int.reduceEq, ↓reduceIte, planIds, List.contains_cons, List.contains_nil, Nat.reduceBEq, setC, List.length_set, false_implies, eq_self, Int.natCast_nonneg, Int.toNat_natCast, Int.ofNat_lt, Nat.zero_add, ne_eq, hal, h1, h12, h38, h39, hlj, hq, hq', he, hpl, List.getElem?_map, Lid.enc, Tryz.f83]
      exact ⟨_, rfl, ExtS.refl⟩
    · rw [decide_eq_false e] at he
      simp only [Lid.enc] at he
      simp (maxSteps := 1000000) (disch := omega) only [push_cast, ↓wc_seq, ↓wc_block, ↓wc_condL, ↓wc_region, ↓wr_cons, ↓wr_nil, ↓wc_skip, wo_some, opQ_eq, seqQ_normal, blockQ_normal, iterQ_normal, pickC_true, pickC_false, Nat.reduceAdd, Nat.reduceMul, Nat.reduceLT, Nat.reduceLeDiff, Nat.reduceEqDiff, ↓reduceIte, planIds, List.contains_cons, List.contains_nil, Nat.reduceBEq, setC, List.length_set, reduceCtorEq, eq_self, Int.natCast_nonneg, Int.toNat_natCast, Int.ofNat_lt, Nat.zero_add, ne_eq, hal, h0, h1, h2, h4, h12, h34, h35, h38, h39, hlj, hq, hq', he, hpl, List.getElem?_map, Lid.enc, wrap_ok, Int.natCast_add, Int.natCast_one]
      intro k' hk'
      by_cases ek : k' = j
      · subst ek
        rw [hq']
        intro e'
        exact e (Option.some.inj e')
      · exact hne k' (by omega)
  rw [List.take_length] at hnd
  have hxm := h.map
  have hxr := h.row
  simp (maxSteps := 1000000) (disch := omega) only [push_cast, ↓wc_seq, ↓wc_block, ↓wc_condL, ↓wc_region, ↓wr_cons, ↓wr_nil, ↓wc_exit, ↓wc_wl, wo_some, opQ_eq, seqQ_normal, seqQ_exit, blockQ_exit, iterQ_exit, pickC_false, Nat.reduceAdd, Nat.reduceMul, Nat.reduceLT, Nat.reduceEqDiff, ↓reduceIte, planIds, List.contains_cons, List.contains_nil, Nat.reduceBEq, setC, List.length_set, eq_self, Int.ofNat_lt, Nat.zero_add, hal, h1, h34, h35, Nat.lt_irrefl, List.length_map]
  refine wl_loop (fun i a U => a.length = 97 ∧ a[0]? = some (.loc k 0 0) ∧ a[1]? = some (.sl 4 (ids.map Lid.enc) x) ∧ a[2]? = some (.str cl) ∧ a[4]? = some (.bool sale) ∧ a[53]? = some (.sl 4 (ids.map Lid.enc) x) ∧ a[54]? = some (.int .i64 ids.length) ∧ a[55]? = some (.int .i64 i) ∧ ExtS T U ∧ ∃ d pl, a[14]? = some d ∧ GL 1 encP U d pl ∧ pl.length = i ∧ (∀ k n, d = .os k 0 n false → T.length ≤ k) ∧ ∀ (j : Nat) (id : Lid) (p : Nat), ids[j]? = some id → pl[j]? = some p → ∃ i x, s.legs[i]? = some (id, x) ∧ ps[i]? = some (.agg id.enc, .loc p 0 0) ∧ s.get id = some x ∧ LegAt T lab o i p x) ids.length ?_ (by omega) ?_
  · simp (maxSteps := 1000000) (disch := omega) only [push_cast, Nat.reduceLT, Nat.reduceEqDiff, ↓reduceIte, setC, List.length_set, reduceCtorEq, eq_self, Option.some.injEq, hal, h0, h1, h2, h4, Int.natCast_zero]
    exact ⟨ExtS.refl, _, [], rfl, GL.nil, rfl, fun k n h => (by cases h), fun j id p h1 h2 => by simp at h2⟩
  clear hal h0 h1 h2 h4 h34 h35 a
  clear hi
  rintro i a U hi ⟨hal, h0, h1, h2, h4, h53, h54, h55, hx, d, pl, h14, hg, hpl, hd, hq⟩
  have hxmU := hx m _ hxm
  have hxrU := hx k _ hxr
  rcases Nat.lt_or_eq_of_le hi with hlt | rfl
  · obtain ⟨id, hid⟩ : ∃ id, ids[i]? = some id := ⟨ids[i], by simp⟩
    have kl := keyOk_lid (hids id (mem_at hid))
    have ks := keys_lid
    have hxmB : ∀ ob, (U ++ [ob])[m]? = some (.map kL ps) := fun ob => get_old hxmU
    have hxrB : ∀ ob, (U ++ [ob])[k]? = some (.row 2 [[.sl 2 (s.l.map Cfg.enc) s.x, .map m]]) := fun ob => get_old hxrU
    rcases h.look id with ⟨e1, e2⟩ | ⟨li, y, p, g1, -, e1, e2, g2, g3⟩
    · rw [named_none b0 hnd ⟨id, mem_at hid, e1⟩]
      simp only [Lid.enc] at kl e2
      simp (maxSteps := 1000000) (disch := omega) only [push_cast, ↓wc_seq, ↓wc_block, ↓wc_condL, ↓wc_region, ↓wr_cons, ↓wr_nil, ↓wc_ret, ↓wc_skip, wo_some, opQ_eq, seqQ_normal, seqQ_ret, blockQ_ret, iterQ_ret, retQ_ret, pickC_true, Nat.reduceAdd, Nat.reduceMul, Nat.reduceLT, Nat.reduceLeDiff, Nat.reduceEqDiff, Int.reduceEq, ↓reduceIte, planIds, List.contains_cons, List.contains_nil, Nat.reduceBEq, setC, List.length_set, false_implies, reduceCtorEq, eq_self, Int.natCast_nonneg, Int.toNat_natCast, Int.ofNat_lt, Nat.zero_add, hal, h0, h53, h54, h55, hlt, hid, set_end, get_end, hxmB, hxrB, kl, ks, e2, eqp_leg0, List.getElem?_map, Lid.enc, Tryz.f83]
      exact ⟨_, rfl, hx.push _⟩
    · obtain ⟨T', ha, hg', hlen, hkeep, -⟩ := app_ptr (hg.push (.row 4 [id.enc])) (by omega) p
      rw [hpl] at ha hg'
      simp only [Lid.enc] at kl e2 ha
      simp (maxSteps := 1000000) (disch := omega) only [push_cast, ↓wc_seq, ↓wc_block, ↓wc_condL, ↓wc_region, ↓wr_cons, ↓wr_nil, ↓wc_skip, wo_some, opQ_eq, seqQ_normal, blockQ_normal, iterQ_normal, pickC_true, pickC_false, Nat.reduceAdd, Nat.reduceMul, Nat.reducePow, Nat.reduceLT, Nat.reduceLeDiff, Nat.reduceEqDiff, ↓wo_buildSlice, evParts, ↓reduceIte, planIds, List.contains_cons, List.contains_nil, Nat.reduceBEq, setC, List.length_set, reduceCtorEq, eq_self, Int.natCast_nonneg, Int.toNat_natCast, Int.ofNat_lt, Option.some.injEq, Nat.zero_add, hal, h0, h1, h2, h4, h14, h53, h54, h55, hlt, hid, set_end, get_end, hxmB, hxrB, kl, ks, e2, ha, eqp_leg, List.getElem?_map, Lid.enc, wrap_ok, Int.natCast_add, Int.natCast_one]
      refine ⟨fun j' ob hj' => hkeep j' ob (fun n e => ?_) (get_old (hx j' ob hj')), _, _, rfl, hg', by simp [hpl], fun k n e => ?_, fun j id' p' h1 h2 => ?_⟩
      · have := hd _ _ e
        have := lt_of_get hj'
        omega
      · injection e with e1
        have := hx.len
        rw [← e1, List.length_append]
        omega
      · rcases get_snoc h2 with h2 | ⟨rfl, rfl⟩
        · exact hq j id' p' h1 h2
        · rw [hpl, hid] at h1
          cases h1
          exact ⟨li, y, g1, g2, e1, g3⟩
  have hsome : ∀ id ∈ ids, ∃ y, s.get id = some y := fun id hid => by
    obtain ⟨j, hj⟩ := List.mem_iff_getElem?.1 hid
    have hjl := lt_of_get hj
    obtain ⟨i, y, -, -, e, -⟩ := hq j id (pl[j]'(by omega)) hj (List.getElem?_eq_getElem (by omega))
    exact ⟨y, e⟩
  obtain ⟨q, rfl, hqU⟩ : ∃ q, d = .os q 0 pl.length false ∧ U[q]? = some (.row 1 (pl.map encP)) := by
    rcases hg with ⟨-, e⟩ | h
    · rw [e] at hpl
      exact absurd (List.eq_nil_of_length_eq_zero hpl.symm) b2
    · exact h
  have hidx : ∀ p ∈ pl, ∃ id ∈ ids, ∃ i y, s.legs[i]? = some (id, y) ∧ ps[i]? = some (.agg id.enc, .loc p 0 0) ∧ s.get id = some y ∧ LegAt T lab o i p y := fun p hp => by
    obtain ⟨j, hj⟩ := List.mem_iff_getElem?.1 hp
    have hjl := lt_of_get hj
    have hji : ids[j]? = some (ids[j]'(by omega)) := List.getElem?_eq_getElem (by omega)
    exact ⟨_, mem_at hji, hq j _ p hji hj⟩
  have hidy : ∀ id ∈ ids, ∃ p ∈ pl, ∃ i y, s.legs[i]? = some (id, y) ∧ s.get id = some y ∧ LegAt T lab o i p y := fun id hid => by
    obtain ⟨j, hj⟩ := List.mem_iff_getElem?.1 hid
    have hjl := lt_of_get hj
    have hjp : pl[j]? = some (pl[j]'(by omega)) := List.getElem?_eq_getElem (by omega)
    obtain ⟨i, y, e1, e2, e3, e4⟩ := hq j id _ hj hjp
    exact ⟨_, mem_at hjp, i, y, e1, e3, e4⟩
  have hcell : ∀ i p y, LegAt T lab o i p y → ∃ c2, U[p]? = some (.row 4 [[.str y.cfg.equip, .sl 4 (y.cfg.cabs.map Cab.enc) y.cfg.cabsx, c2, .bool y.closed]]) := fun i p y hy => by
    obtain ⟨qq, es, hp, -, -, -⟩ := hy.parts
    exact ⟨_, hx _ _ hp⟩
  have hpr : ∀ i p y, LegAt T lab o i p y → clB U p = y.closed := fun i p y hy => by
    obtain ⟨c2, hp⟩ := hcell i p y hy
    unfold clB
    rw [hp]
  have hcl := hasP_c (n := n) (g := 124) (xs := []) (ys := []) (pr := clB U) (l := pl) (S := U) (by omega) (by omega) hqU (fun p hp => by
    obtain ⟨id, -, i, y, -, -, -, e4⟩ := hidx p hp
    obtain ⟨c2, hp⟩ := hcell i p y e4
    rw [hpr i p y e4]
    exact find1_c (by omega) hp)
  have hst : sale = false ∨ pl.any (clB U) = false → sale = false ∨ ∀ id ∈ ids, ∀ y, s.get id = some y → y.closed = false := fun h => by
    rcases h with h | h
    · exact .inl h
    · refine .inr fun id hid y hy => ?_
      obtain ⟨p, hp, i, y', -, e, e4⟩ := hidy id hid
      rw [hy] at e
      cases e
      rw [List.any_eq_false] at h
      have := h p hp
      rw [hpr i p y e4] at this
      simpa using this
  by_cases b4 : sale = true ∧ pl.any (clB U) = true
  · obtain ⟨b4, b5⟩ := b4
    rw [b5] at hcl
    obtain ⟨p, hp, hpc⟩ := List.any_eq_true.1 b5
    obtain ⟨id, hid, i', y, -, -, e, e4⟩ := hidx p hp
    rw [hpr i' p y e4] at hpc
    rw [named_state b0 hnd hsome b4 ⟨id, hid, y, e, hpc⟩]
    subst b4
    simp (maxSteps := 1000000) (disch := omega) only [push_cast, ↓wc_seq, ↓wc_condL, ↓wc_region, ↓wr_cons, ↓wr_consgL, ↓wr_nil, ↓wo_pickL, ↓wo_callf, ↓wc_exit, ↓wc_ret, wo_some, opQ_eq, seqQ_normal, seqQ_exit, seqQ_ret, blockQ_exit, iterQ_exit, retQ_ret, pickC_true, pickC_false, pickO_true, gstep_tt, Nat.reduceAdd, Nat.reduceMul, Nat.reduceLT, Nat.reduceEqDiff, Int.reduceEq, ↓reduceIte, planIds, hasExt, cntFs, idxFs, clnFs, ovlFs, List.contains_cons, List.contains_nil, List.any_cons, List.any_nil, Nat.reduceBEq, setC, List.length_set, false_implies, eq_self, Int.ofNat_lt, Nat.zero_add, hal, h4, h14, h54, h55, Nat.lt_irrefl, hcl, Tryz.f83]
    exact ⟨_, rfl, hx⟩
  have b5 : sale = false ∨ pl.any (clB U) = false := by
    cases sale
    · exact .inl rfl
    · right
      cases hb : pl.any (clB U)
      · rfl
      · exact absurd ⟨rfl, hb⟩ b4
  have b6 := hst b5
  have hfin : (∀ id ∈ ids, ∀ y, s.get id = some y → ∃ q, placeF cl 0 y.cfg.cabs = some q) → ∀ (j : Nat) (id : Lid) (p : Nat), ids[j]? = some id → pl[j]? = some p → PtrAt U lab o s ps cl id p := fun hp j id p h1 h2 => by
    obtain ⟨i, y, e1, e2, e3, e4⟩ := hq j id p h1 h2
    obtain ⟨q', hq'⟩ := hp id (mem_at h1) y e3
    exact ⟨i, y, q', e1, e2, e3, e4.keep (KeepO.ext hx), hq'⟩
  cases sale
  case false =>
    simp (maxSteps := 1000000) (disch := omega) only [push_cast, ↓wc_seq, ↓wc_block, ↓wc_condL, ↓wc_region, ↓wr_cons, ↓wr_consgL, ↓wr_nil, ↓wo_pickL, ↓wc_exit, ↓wc_skip, ↓wc_wl, wo_some, opQ_eq, seqQ_normal, seqQ_exit, blockQ_exit, iterQ_exit, pickC_false, pickO_false, gstep_ft, Nat.reduceAdd, Nat.reduceMul, Nat.reduceLT, Nat.reduceEqDiff, ↓reduceIte, planIds, List.contains_cons, List.contains_nil, Nat.reduceBEq, setC, List.length_set, eq_self, Int.ofNat_lt, Nat.zero_add, hal, h4, h14, h54, h55, Nat.lt_irrefl]
    refine wl_loop (fun i a V => V = U ∧ a.length = 97 ∧ a[2]? = some (.str cl) ∧ a[14]? = some (.os q 0 pl.length false) ∧ a[77]? = some (.os q 0 pl.length false) ∧ a[78]? = some (.int .i64 pl.length) ∧ a[79]? = some (.int .i64 i) ∧ ∀ j id y, j < i → ids[j]? = some id → s.get id = some y → ∃ q, placeF cl 0 y.cfg.cabs = some q) pl.length ?_ (by omega) ?_
    · simp (maxSteps := 1000000) (disch := omega) only [push_cast, Nat.reduceLT, Nat.reduceEqDiff, ↓reduceIte, setC, List.length_set, eq_self, hal, h2, h14, Int.natCast_zero]
      exact fun j id y h => by omega
    clear hal h0 h1 h2 h4 h14 h53 h54 h55 a
    clear hi
    rintro i a V hi ⟨rfl, hal, h2, h14, h77, h78, h79, hpd⟩
    rcases Nat.lt_or_eq_of_le hi with hlt | rfl
    case inr =>
      have hall : ∀ id ∈ ids, ∀ y, s.get id = some y → ∃ q, placeF cl 0 y.cfg.cabs = some q := fun id hid y hy => by
        obtain ⟨j, hj⟩ := List.mem_iff_getElem?.1 hid
        exact hpd j id y (by have := lt_of_get hj; omega) hj hy
      rw [named_ok b0 hnd hsome b6 hall]
      simp (maxSteps := 1000000) (disch := omega) only [push_cast, ↓wc_seq, ↓wc_condL, ↓wc_region, ↓wr_cons, ↓wr_nil, ↓wc_exit, ↓wc_ret, wo_some, opQ_eq, seqQ_normal, seqQ_exit, blockQ_exit, iterQ_exit, retQ_ret, pickC_false, Nat.reduceAdd, Nat.reduceMul, Nat.reduceLT, Nat.reduceEqDiff, ↓reduceIte, planIds, List.contains_cons, List.contains_nil, Nat.reduceBEq, setC, List.length_set, forall_const, eq_self, Int.ofNat_lt, Nat.zero_add, hal, h14, h78, h79, Nat.lt_irrefl, Tryz.f83]
      exact ⟨_, rfl, hx, q, pl, rfl, hd _ _ rfl, hqU, hpl, hfin hall⟩
    obtain ⟨p, hp⟩ : ∃ p, pl[i]? = some p := ⟨pl[i], by simp⟩
    obtain ⟨id, hid⟩ : ∃ id, ids[i]? = some id := ⟨ids[i]'(by omega), by simp⟩
    obtain ⟨li, y, e1, e2, e3, e4⟩ := hq i id p hid hp
    obtain ⟨c2, hpc⟩ := hcell li p y e4
    have cp := Place_c (n := n) (cl := cl) (by omega) (ok.get e3).cfg.sm
    simp only [Cfg.enc] at cp
    rcases hpl2 : placeF cl 0 y.cfg.cabs with _ | ⟨a', b'⟩
    · rw [named_class b0 hnd hsome b6 ⟨id, mem_at hid, y, e3, hpl2⟩]
      rw [hpl2] at cp
      simp only [placeD] at cp
      simp (maxSteps := 1000000) (disch := omega) only [push_cast, ↓wc_seq, ↓wc_block, ↓wc_condL, ↓wc_region, ↓wr_cons, ↓wr_nil, ↓wo_callf, ↓wc_ret, ↓wc_skip, wo_some, opQ_eq, seqQ_normal, seqQ_ret, blockQ_ret, iterQ_ret, retQ_ret, pickC_true, Nat.reduceAdd, Nat.reduceMul, Nat.reduceLT, Nat.reduceLeDiff, Nat.reduceEqDiff, Int.reduceEq, ↓reduceIte, planIds, hasExt, cntFs, idxFs, clnFs, ovlFs, List.contains_cons, List.contains_nil, List.any_cons, List.any_nil, Nat.reduceBEq, setC, List.length_set, false_implies, eq_self, Int.natCast_nonneg, Int.toNat_natCast, Int.ofNat_lt, Nat.zero_add, Nat.add_zero, hal, h2, h77, h78, h79, hlt, hqU, hp, hpc, cp, List.getElem?_map, dUn, Tryz.f83]
      exact ⟨_, rfl, hx⟩
    · rw [hpl2] at cp
      simp only [placeD] at cp
      simp (maxSteps := 1000000) (disch := omega) only [push_cast, ↓wc_seq, ↓wc_block, ↓wc_condL, ↓wc_region, ↓wr_cons, ↓wr_nil, ↓wo_callf, ↓wc_skip, wo_some, opQ_eq, seqQ_normal, blockQ_normal, iterQ_normal, pickC_true, pickC_false, Nat.reduceAdd, Nat.reduceMul, Nat.reduceLT, Nat.reduceLeDiff, Nat.reduceEqDiff, ↓reduceIte, planIds, hasExt, cntFs, idxFs, clnFs, ovlFs, List.contains_cons, List.contains_nil, List.any_cons, List.any_nil, Nat.reduceBEq, setC, List.length_set, eq_self, Int.natCast_nonneg, Int.toNat_natCast, Int.ofNat_lt, Nat.zero_add, Nat.add_zero, hal, h2, h14, h77, h78, h79, hlt, hqU, hp, hpc, cp, List.getElem?_map, dUn, wrap_ok, Int.natCast_add, Int.natCast_one]
      intro j id' y' hj h1 h2
      by_cases ej : j = i
      · subst ej
        rw [hid] at h1
        cases h1
        rw [e3] at h2
        cases h2
        exact ⟨_, hpl2⟩
      · exact hpd j id' y' (by omega) h1 h2
  case true =>
    have b7 : pl.any (clB U) = false := by
      rcases b5 with h | h
      · cases h
      · exact h
    rw [b7] at hcl
    simp (maxSteps := 1000000) (disch := omega) only [push_cast, ↓wc_seq, ↓wc_block, ↓wc_condL, ↓wc_region, ↓wr_cons, ↓wr_consgL, ↓wr_nil, ↓wo_pickL, ↓wo_callf, ↓wc_exit, ↓wc_skip, ↓wc_wl, wo_some, opQ_eq, seqQ_normal, seqQ_exit, blockQ_exit, iterQ_exit, pickC_false, pickO_true, gstep_tt, Nat.reduceAdd, Nat.reduceMul, Nat.reduceLT, Nat.reduceEqDiff, ↓reduceIte, planIds, hasExt, cntFs, idxFs, clnFs, ovlFs, List.contains_cons, List.contains_nil, List.any_cons, List.any_nil, Nat.reduceBEq, setC, List.length_set, eq_self, Int.ofNat_lt, Nat.zero_add, hal, h4, h14, h54, h55, Nat.lt_irrefl, hcl]
    refine wl_loop (fun i a V => V = U ∧ a.length = 97 ∧ a[2]? = some (.str cl) ∧ a[14]? = some (.os q 0 pl.length false) ∧ a[77]? = some (.os q 0 pl.length false) ∧ a[78]? = some (.int .i64 pl.length) ∧ a[79]? = some (.int .i64 i) ∧ ∀ j id y, j < i → ids[j]? = some id → s.get id = some y → ∃ q, placeF cl 0 y.cfg.cabs = some q) pl.length ?_ (by omega) ?_
    · simp (maxSteps := 1000000) (disch := omega) only [push_cast, Nat.reduceLT, Nat.reduceEqDiff, ↓reduceIte, setC, List.length_set, eq_self, hal, h2, h14, Int.natCast_zero]
      exact fun j id y h => by omega
    clear hal h0 h1 h2 h4 h14 h53 h54 h55 a
    clear hi
    rintro i a V hi ⟨rfl, hal, h2, h14, h77, h78, h79, hpd⟩
    rcases Nat.lt_or_eq_of_le hi with hlt | rfl
    case inr =>
      have hall : ∀ id ∈ ids, ∀ y, s.get id = some y → ∃ q, placeF cl 0 y.cfg.cabs = some q := fun id hid y hy => by
        obtain ⟨j, hj⟩ := List.mem_iff_getElem?.1 hid
        exact hpd j id y (by have := lt_of_get hj; omega) hj hy
      rw [named_ok b0 hnd hsome b6 hall]
      simp (maxSteps := 1000000) (disch := omega) only [push_cast, ↓wc_seq, ↓wc_condL, ↓wc_region, ↓wr_cons, ↓wr_nil, ↓wc_exit, ↓wc_ret, wo_some, opQ_eq, seqQ_normal, seqQ_exit, blockQ_exit, iterQ_exit, retQ_ret, pickC_false, Nat.reduceAdd, Nat.reduceMul, Nat.reduceLT, Nat.reduceEqDiff, ↓reduceIte, planIds, List.contains_cons, List.contains_nil, Nat.reduceBEq, setC, List.length_set, forall_const, eq_self, Int.ofNat_lt, Nat.zero_add, hal, h14, h78, h79, Nat.lt_irrefl, Tryz.f83]
      exact ⟨_, rfl, hx, q, pl, rfl, hd _ _ rfl, hqU, hpl, hfin hall⟩
    obtain ⟨p, hp⟩ : ∃ p, pl[i]? = some p := ⟨pl[i], by simp⟩
    obtain ⟨id, hid⟩ : ∃ id, ids[i]? = some id := ⟨ids[i]'(by omega), by simp⟩
    obtain ⟨li, y, e1, e2, e3, e4⟩ := hq i id p hid hp
    obtain ⟨c2, hpc⟩ := hcell li p y e4
    have cp := Place_c (n := n) (cl := cl) (by omega) (ok.get e3).cfg.sm
    simp only [Cfg.enc] at cp
    rcases hpl2 : placeF cl 0 y.cfg.cabs with _ | ⟨a', b'⟩
    · rw [named_class b0 hnd hsome b6 ⟨id, mem_at hid, y, e3, hpl2⟩]
      rw [hpl2] at cp
      simp only [placeD] at cp
      simp (maxSteps := 1000000) (disch := omega) only [push_cast, ↓wc_seq, ↓wc_block, ↓wc_condL, ↓wc_region, ↓wr_cons, ↓wr_nil, ↓wo_callf, ↓wc_ret, ↓wc_skip, wo_some, opQ_eq, seqQ_normal, seqQ_ret, blockQ_ret, iterQ_ret, retQ_ret, pickC_true, Nat.reduceAdd, Nat.reduceMul, Nat.reduceLT, Nat.reduceLeDiff, Nat.reduceEqDiff, Int.reduceEq, ↓reduceIte, planIds, hasExt, cntFs, idxFs, clnFs, ovlFs, List.contains_cons, List.contains_nil, List.any_cons, List.any_nil, Nat.reduceBEq, setC, List.length_set, false_implies, eq_self, Int.natCast_nonneg, Int.toNat_natCast, Int.ofNat_lt, Nat.zero_add, Nat.add_zero, hal, h2, h77, h78, h79, hlt, hqU, hp, hpc, cp, List.getElem?_map, dUn, Tryz.f83]
      exact ⟨_, rfl, hx⟩
    · rw [hpl2] at cp
      simp only [placeD] at cp
      simp (maxSteps := 1000000) (disch := omega) only [push_cast, ↓wc_seq, ↓wc_block, ↓wc_condL, ↓wc_region, ↓wr_cons, ↓wr_nil, ↓wo_callf, ↓wc_skip, wo_some, opQ_eq, seqQ_normal, blockQ_normal, iterQ_normal, pickC_true, pickC_false, Nat.reduceAdd, Nat.reduceMul, Nat.reduceLT, Nat.reduceLeDiff, Nat.reduceEqDiff, ↓reduceIte, planIds, hasExt, cntFs, idxFs, clnFs, ovlFs, List.contains_cons, List.contains_nil, List.any_cons, List.any_nil, Nat.reduceBEq, setC, List.length_set, eq_self, Int.natCast_nonneg, Int.toNat_natCast, Int.ofNat_lt, Nat.zero_add, Nat.add_zero, hal, h2, h14, h77, h78, h79, hlt, hqU, hp, hpc, cp, List.getElem?_map, dUn, wrap_ok, Int.natCast_add, Int.natCast_one]
      intro j id' y' hj h1 h2
      by_cases ej : j = i
      · subst ej
        rw [hid] at h1
        cases h1
        rw [e3] at h2
        cases h2
        exact ⟨_, hpl2⟩
      · exact hpd j id' y' (by omega) h1 h2
end
set_option linter.unusedSimpArgs false

theorem set_modify {l : List Int} {b : Nat} {v n : Int} (h : l[b]? = some v) : (l.map encZ).set b [.int .i64 (v + n)] = (l.modify b (· + n)).map encZ := by
  refine List.ext_getElem? fun j => ?_
  rw [List.getElem?_set, List.getElem?_map, List.getElem?_map, modify_at, List.length_map]
  by_cases e : b = j
  · subst e
    rw [h]
    have := lt_of_get h
    simp [this]
  · rw [if_neg e]
    cases l[j]? <;> simp [e]
section
variable {S : List Ob} {lab : Lab} {o k m n : Nat} {s : Stk} {ps : List (D × D)} {ids : List Lid} {id : Lid}
/-- Seats of a leg are sold. -/
theorem StkAt.put {i p a b r q : Nat} {x : Leg} {cl : ByteArray} {w : Int} {row : List Int} {es : List (List D)} (h : StkAt S lab o kL (.loc k 0 0) s k m ps) (hf : FreshL S lab) (hnd : (s.legs.map (·.1)).Nodup) (hi : s.legs[i]? = some (id, x)) (hp : ps[i]? = some (.agg id.enc, .loc p 0 0)) (hx : LegAt S lab o i p x)
    (hpl : placeF cl 0 x.cfg.cabs = some (a, b)) (ha : x.sold[a]? = some row) (hq : S[q]? = some (.row 1 es)) (hpq : S[p]? = some (.row 4 [legCells x (.os q 0 x.sold.length false)])) (hr : es[a]? = some [.os r 0 row.length false]) (hlr : lab r = [o, 3, i, a]) :
    StkAt (S.set r (.row 1 ((row.modify b (· + w)).map encZ))) lab o kL (.loc k 0 0) { s with legs := updL s.legs id (addL cl w) } k m ps ∧ Step o S lab (S.set r (.row 1 ((row.modify b (· + w)).map encZ))) lab := by
  have hst : Step o S lab (S.set r (.row 1 ((row.modify b (· + w)).map encZ))) lab := Step.set hf _ (by rw [hlr]; rfl)
  have hadd : addL cl w x = { x with sold := addAt x.sold a b w } := by unfold addL; rw [hpl]
  refine ⟨h.upd hnd hi hp (fun z ob hz n1 n2 n3 => ?_) (fun _ _ => rfl) ?_, hst⟩
  · rw [List.getElem?_set_ne]
    · exact hz
    · rintro rfl; exact n3 a hlr
  · rw [hadd]
    obtain ⟨h1, d, h2, h3⟩ := hx
    rw [hpq] at h2
    have hd : d = .os q 0 x.sold.length false := by simpa [legCells] using h2.symm
    subst hd
    have hlen : (addAt x.sold a b w).length = x.sold.length := by rw [addAt, List.length_modify]
    refine ⟨h1, _, ?_, h3.add ha hlr ⟨q, es, rfl, hq, hr⟩⟩
    rw [List.getElem?_set_ne]
    · exact hpq
    · rintro rfl; rw [hlr] at h1; simp at h1
theorem Sell1_c {i p c1 c2 : Nat} {x : Leg} {l : List Cfg} (hn : 180 ≤ n) (hx : LegAt S lab o i p x) (ok : LegOk l 9999 x) {cl : ByteArray} {w : Int} (h1 : S[c1]? = some (.row 1 [[.str cl]])) (h2 : S[c2]? = some (.row 1 [[.int .i64 w]])) :
    callD E (dcall E n) false S 85 [.loc p 0 0, .loc c1 0 0, .loc c2 0 0] = some (.bool (decide (leftF x cl < w)), S) := by
  obtain ⟨q, rfl⟩ : ∃ q, n = q + 1 := ⟨n - 1, by omega⟩
  have cl' := left_c (n := q) (by omega) hx ok cl
  have : WO (dcall E (q + 1) 85 [.loc p 0 0, .loc c1 0 0, .loc c2 0 0] S) fun r T => r = .bool (decide (leftF x cl < w)) ∧ T = S := by
    have g1 := h1
    have g2 := h2
    clear h1 h2
    refine wo_dcall Tryz.func85 rfl (by decide) rfl 10 rfl (fun a hal ha => ?_)
    have h0 : a[0]? = some (.loc p 0 0) := ha 0 (by simp)
    have h1 : a[1]? = some (.loc c1 0 0) := ha 1 (by simp)
    have h2 : a[2]? = some (.loc c2 0 0) := ha 2 (by simp)
    clear ha
    simp (maxSteps := 1000000) (disch := omega) only [push_cast, ↓wc_seq, ↓wc_region, ↓wr_cons, ↓wr_nil, ↓wo_callf, ↓wc_ret, wo_some, opQ_eq, seqQ_normal, retQ_ret, Nat.reduceAdd, Nat.reduceMul, Nat.reduceLT, Nat.reduceEqDiff, ↓reduceIte, planIds, hasExt, cntFs, idxFs, clnFs, ovlFs, List.contains_cons, List.contains_nil, List.any_cons, List.any_nil, Nat.reduceBEq, setC, List.length_set, reduceCtorEq, eq_self, Nat.zero_add, hal, h0, h1, h2, g1, g2, cl', Tryz.f85]
  obtain ⟨_, U, ho, rfl, rfl⟩ := this
  exact (callD_own rfl rfl).trans ho
def lessB (lab : Lab) (s : Stk) (cl : ByteArray) (w : Int) (p : Nat) : Bool := match lab p with
  | [_, _, i] => match s.legs[i]? with
    | some (_, x) => decide (leftF x cl < w)
    | none => false
  | _ => false
theorem find_c (hn : 190 ≤ n) (h : StkAt S lab o kL (.loc k 0 0) s k m ps) (ok : StkOk 9999 s) (hl : ids.length ≤ 20) (hids : ∀ id ∈ ids, id.Ok) {di : D} (hdi : FLs 4 Lid.enc di ids) (cl : ByteArray) (w : Int) (sale : Bool) :
    ∃ d T, callD E (dcall E n) false S 83 [.loc k 0 0, di, .str cl, .int .i64 w, .bool sale] = some (.tup [d, .int .i64 (s.named ids cl w sale)], T) ∧ ExtS S T ∧
      (s.named ids cl w sale = 0 → ∃ (q : Nat) (pl : List Nat), d = .os q 0 pl.length false ∧ S.length ≤ q ∧ T[q]? = some (.row 1 (pl.map encP)) ∧ pl.length = ids.length ∧ ∀ (j : Nat) (id : Lid) (p : Nat), ids[j]? = some id → pl[j]? = some p → PtrAt T lab o s ps cl id p) := by
  obtain ⟨q, rfl⟩ : ∃ q, n = q + 1 := ⟨n - 1, by omega⟩
  obtain ⟨_, T, ho, d, rfl, h1, h2⟩ := find_d (n := q) (by omega) h ok hl hids hdi cl w sale
  exact ⟨d, T, (callD_own rfl rfl).trans ho, h1, h2⟩
set_option maxHeartbeats 8000000 in
set_option maxRecDepth 100000 in
theorem Sell_d (hn : 200 ≤ n) (h : SAt S lab o k s) (ok : StkOk 9999 s) (hl : ids.length ≤ 20) (hids : ∀ id ∈ ids, id.Ok) {di : D} (hdi : FLs 4 Lid.enc di ids) (cl : ByteArray) (w : Int) :
    WO (dcall E (n + 1) 31 [.loc k 0 0, di, .str cl, .int .i64 w] S) fun r T => r = .int .i64 (s.sell ids cl w).1 ∧ ∃ lab', SAt T lab' o k (s.sell ids cl w).2 ∧ Step o S lab T lab' := by
  obtain ⟨hf, m, ps, h⟩ := h
  have hx0 := (h.push [.row 1 [[.str cl]]]).push [.row 1 [[.int .i64 w]]]
  obtain ⟨d, T, cf, hxT, hfd⟩ := find_c (n := n) (by omega) hx0 ok hl hids hdi cl w true
  have hfT : FreshL T lab := fun z hz => hf z (by
    have := hxT.len
    rw [List.length_append, List.length_append] at this
    omega)
  have hST : Step o S lab T lab := by
    obtain ⟨J, rfl⟩ := exts_split hxT
    exact ((Step.push hf _).trans (Step.push (hf.push _) _)).trans (Step.push ((hf.push _).push _) _)
  have hT := hx0.keep (KeepO.ext hxT)
  have b1 := hxT S.length _ get_end0
  have b2 := hxT (S.length + 1) _ get_end1
  refine wo_dcall Tryz.func31 rfl (by decide) rfl 60 rfl (fun a hal ha => ?_)
  have h0 : a[0]? = some (.loc k 0 0) := ha 0 (by simp)
  have h1 : a[1]? = some (di) := ha 1 (by simp)
  have h2 : a[2]? = some (.str cl) := ha 2 (by simp)
  have h3 : a[3]? = some (.int .i64 w) := ha 3 (by simp)
  clear ha
  unfold Stk.sell
  by_cases e0 : s.named ids cl w true = 0
  case neg =>
    rw [if_pos e0]
    simp (maxSteps := 1000000) (disch := omega) only [push_cast, ↓wc_seq, ↓wc_condL, ↓wc_region, ↓wr_cons, ↓wr_nil, ↓wo_callf, ↓wc_ret, wo_some, opQ_eq, seqQ_normal, seqQ_ret, retQ_ret, pickC_true, int_bne, Nat.reduceAdd, Nat.reduceMul, Nat.reduceLT, Nat.reduceEqDiff, ↓reduceIte, planIds, hasExt, cntFs, idxFs, clnFs, ovlFs, List.contains_cons, List.contains_nil, List.any_cons, List.any_nil, Nat.reduceBEq, setC, List.length_set, reduceCtorEq, eq_self, Nat.zero_add, not_false_eq_true, hal, h0, h1, h2, h3, get_end, get_end0, cf, e0, Tryz.f31]
    exact ⟨lab, ⟨hfT, m, ps, hT⟩, hST⟩
  rw [if_neg (by simpa using e0)]
  rw [e0] at cf
  obtain ⟨q, pl, rfl, hqS, hq, hpl, hptr⟩ := hfd e0
  obtain ⟨hw1, hne, hnd, hall⟩ := named_inv e0
  have hidx : ∀ p ∈ pl, ∃ id ∈ ids, PtrAt T lab o s ps cl id p := fun p hp => by
    obtain ⟨j, hj⟩ := List.mem_iff_getElem?.1 hp
    have hjl := lt_of_get hj
    have hji : ids[j]? = some (ids[j]'(by omega)) := List.getElem?_eq_getElem (by omega)
    exact ⟨_, mem_at hji, hptr j _ p hji hj⟩
  have hidy : ∀ id ∈ ids, ∃ p ∈ pl, PtrAt T lab o s ps cl id p := fun id hid => by
    obtain ⟨j, hj⟩ := List.mem_iff_getElem?.1 hid
    have hjl := lt_of_get hj
    have hjp : pl[j]? = some (pl[j]'(by omega)) := List.getElem?_eq_getElem (by omega)
    exact ⟨_, mem_at hjp, hptr j id _ hj hjp⟩
  have hpr : ∀ id p, PtrAt T lab o s ps cl id p → ∃ i x, LegAt T lab o i p x ∧ s.get id = some x ∧ lessB lab s cl w p = decide (leftF x cl < w) := fun id p hp => by
    obtain ⟨i, x, q', e1, -, e3, e4, -⟩ := hp.x
    refine ⟨i, x, e4, e3, ?_⟩
    unfold lessB
    rw [e4.1]
    dsimp only
    rw [e1]
  have hc := hasP_c (n := n) (g := 85) (xs := []) (ys := [.loc S.length 0 0, .loc (S.length + 1) 0 0]) (pr := lessB lab s cl w) (l := pl) (S := T) (by omega) (by omega) hq (fun p hp => by
    obtain ⟨id, hid, hp⟩ := hidx p hp
    obtain ⟨i, x, hx, hg, e⟩ := hpr id p hp
    rw [e]
    exact Sell1_c (by omega) hx (ok.get hg) b1 b2)
  have hany : pl.any (lessB lab s cl w) = ids.any (fun id => decide (((s.get id).map (leftF · cl)).getD 0 < w)) := by
    rw [Bool.eq_iff_iff, List.any_eq_true, List.any_eq_true]
    constructor
    · rintro ⟨p, hp, hb⟩
      obtain ⟨id, hid, hp⟩ := hidx p hp
      obtain ⟨i, x, hx, hg, e⟩ := hpr id p hp
      rw [e] at hb
      exact ⟨id, hid, by rw [hg]; exact hb⟩
    · rintro ⟨id, hid, hb⟩
      obtain ⟨p, hpm, hp⟩ := hidy id hid
      obtain ⟨i, x, hx, hg, e⟩ := hpr id p hp
      rw [hg] at hb
      exact ⟨p, hpm, by rw [e]; exact hb⟩
  rw [hany] at hc
  have hL : (S ++ [Ob.row 1 [[D.str cl]]]).length = S.length + 1 := by simp
  cases hb : ids.any (fun id => decide (((s.get id).map (leftF · cl)).getD 0 < w))
  case true =>
    rw [hb] at hc
    rw [if_pos rfl]
    simp (maxSteps := 1000000) (disch := omega) only [push_cast, ↓wc_seq, ↓wc_condL, ↓wc_region, ↓wr_cons, ↓wr_nil, ↓wo_callf, ↓wc_ret, ↓wc_skip, wo_some, opQ_eq, seqQ_normal, seqQ_ret, retQ_ret, pickC_true, pickC_false, int_bne, Nat.reduceAdd, Nat.reduceMul, Nat.reduceLT, Nat.reduceEqDiff, ↓reduceIte, planIds, hasExt, cntFs, idxFs, clnFs, ovlFs, List.contains_cons, List.contains_nil, List.any_cons, List.any_nil, Nat.reduceBEq, setC, List.length_set, reduceCtorEq, eq_self, Nat.zero_add, not_true_eq_false, hal, h0, h1, h2, h3, get_end0, get_end1, cf, hc, hL, Tryz.f31]
    exact ⟨lab, ⟨hfT, m, ps, hT⟩, hST⟩
  rw [hb] at hc
  rw [if_neg (by simp)]
  have hwle : w ≤ 1998 := by
    obtain ⟨id, hid⟩ : ∃ id, id ∈ ids := by
      cases ids with
      | nil => exact absurd rfl hne
      | cons a l => exact ⟨a, by simp⟩
    obtain ⟨x, q', hx, -⟩ := hall id hid
    rw [List.any_eq_false] at hb
    have := hb id hid
    rw [hx] at this
    have h2 := leftF_le (ok.get hx) cl
    simp at this
    omega
  have hqT : lab q = [] := hf q (by rw [List.length_append, List.length_append] at hqS; omega)
  have hfree : ∀ {U : List Ob} {z : Nat} {ob : Ob}, Step o T lab U lab → T[z]? = some ob → lab z = [] → U[z]? = some ob := fun hs hz hl => (hs.free hz hl).1
  simp (maxSteps := 1000000) (disch := omega) only [push_cast, ↓wc_seq, ↓wc_block, ↓wc_condL, ↓wc_region, ↓wr_cons, ↓wr_nil, ↓wo_callf, ↓wc_skip, ↓wc_wl, wo_some, opQ_eq, seqQ_normal, pickC_false, int_bne, Nat.reduceAdd, Nat.reduceMul, Nat.reduceLT, Nat.reduceEqDiff, ↓reduceIte, planIds, hasExt, cntFs, idxFs, clnFs, ovlFs, List.contains_cons, List.contains_nil, List.any_cons, List.any_nil, Nat.reduceBEq, setC, List.length_set, reduceCtorEq, eq_self, Nat.zero_add, not_true_eq_false, hal, h0, h1, h2, h3, get_end0, get_end1, cf, hc, hL]
  refine wl_loop (fun i a U => a.length = 60 ∧ a[6]? = some (.loc S.length 0 0) ∧ a[7]? = some (.loc (S.length + 1) 0 0) ∧ a[30]? = some (.os q 0 pl.length false) ∧ a[31]? = some (.int .i64 pl.length) ∧ a[32]? = some (.int .i64 i) ∧ Step o T lab U lab ∧ ∃ legs, StkAt U lab o kL (.loc k 0 0) { s with legs := legs } k m ps ∧ legs.map (·.1) = s.legs.map (·.1) ∧ addIds cl w ids s.legs = addIds cl w (ids.drop i) legs ∧ ∀ (j : Nat) (id : Lid) (li : Nat) (x : Leg), i ≤ j → ids[j]? = some id → s.legs[li]? = some (id, x) → legs[li]? = some (id, x)) pl.length ?_ (by omega) ?_
  · simp (maxSteps := 1000000) (disch := omega) only [push_cast, Nat.reduceLT, Nat.reduceEqDiff, ↓reduceIte, setC, List.length_set, eq_self, hal, Int.natCast_zero, List.drop_zero]
    exact ⟨Step.refl hfT, s.legs, hT, rfl, rfl, fun j id li x _ _ h => h⟩
  clear hal h0 h1 h2 h3 a
  rintro i a U hi ⟨hal, h6, h7, h30, h31, h32, hsU, legs, hU, hfst, hadd, hold⟩
  rcases Nat.lt_or_eq_of_le hi with hlt | rfl
  case inr =>
    have hfin : addIds cl w ids s.legs = legs := by
      rw [hadd, List.drop_eq_nil_of_le (by omega)]; rfl
    rw [hfin]
    simp (maxSteps := 1000000) (disch := omega) only [push_cast, ↓wc_seq, ↓wc_condL, ↓wc_region, ↓wr_cons, ↓wr_nil, ↓wc_exit, ↓wc_ret, wo_some, opQ_eq, seqQ_normal, seqQ_exit, blockQ_exit, iterQ_exit, retQ_ret, pickC_false, Nat.reduceAdd, Nat.reduceMul, Nat.reduceLT, ↓reduceIte, planIds, List.contains_cons, List.contains_nil, Nat.reduceBEq, setC, List.length_set, eq_self, Int.ofNat_lt, Nat.zero_add, hal, h31, h32, Nat.lt_irrefl, Tryz.f31]
    exact ⟨lab, ⟨hsU.fresh, m, ps, hU⟩, hST.trans hsU⟩
  obtain ⟨p, hp⟩ : ∃ p, pl[i]? = some p := ⟨pl[i], by simp⟩
  obtain ⟨id, hid⟩ : ∃ id, ids[i]? = some id := ⟨ids[i]'(by omega), by simp⟩
  obtain ⟨li, x, ⟨a', b'⟩, e1, e2, e3, e4, e5⟩ := (hptr i id p hid hp).x
  have hli := hold i id li x (Nat.le_refl _) hid e1
  obtain ⟨p', g1, g2⟩ := hU.leg li id x hli
  rw [e2] at g1
  have hpp : p = p' := by simpa using g1
  subst hpp
  obtain ⟨q2, es, hp4, hq2, -, hr⟩ := g2.parts
  have hok := ok.get e3
  obtain ⟨y, row, z, v, c1, c2, c3, c4, c5, c6, c7⟩ := hok.at_ e5
  obtain ⟨r, hr1, hr2, hr3⟩ := hr a' row c2
  have hvb := hok.rng (by omega) c2 v (mem_at c5)
  have ha' : a' < x.sold.length := lt_of_get c2
  have hb' : b' < row.length := lt_of_get c5
  have hsm := set_modify (n := w) c5
  have cp := Place_c (n := n) (cl := cl) (by omega) hok.cfg.sm
  rw [e5] at cp
  simp only [Cfg.enc, placeD] at cp
  have hqU := hfree hsU hq hqT
  have b1U := hfree hsU b1 (hf _ (by omega))
  have b2U := hfree hsU b2 (hf _ (by omega))
  have hndL : (legs.map (·.1)).Nodup := by rw [hfst]; exact ok.ids
  obtain ⟨n1, n2⟩ := hU.put (w := w) hsU.fresh hndL hli e2 g2 e5 c2 hq2 hp4 hr1 hr2
  have hlr := lt_of_get hr3
  simp (maxSteps := 1000000) (disch := omega) only [push_cast, ↓wc_seq, ↓wc_block, ↓wc_condL, ↓wc_region, ↓wr_cons, ↓wr_nil, ↓wo_callf, ↓wc_skip, wo_some, opQ_eq, seqQ_normal, blockQ_normal, iterQ_normal, pickC_true, Nat.reduceAdd, Nat.reduceMul, Nat.reduceLT, Nat.reduceLeDiff, Nat.reduceEqDiff, ↓reduceIte, planIds, hasExt, cntFs, idxFs, clnFs, ovlFs, List.contains_cons, List.contains_nil, List.any_cons, List.any_nil, Nat.reduceBEq, setC, List.length_set, eq_self, Int.natCast_nonneg, Int.toNat_natCast, Int.ofNat_lt, Nat.zero_add, Nat.add_zero, hal, h6, h7, h30, h31, h32, hlt, hqU, hp, hp4, hq2, hr1, hr3, c5, b1U, b2U, cp, ha', hb', hsm, List.getElem?_map, wrap_ok, Int.natCast_add, Int.natCast_one]
  refine ⟨hsU.trans n2, _, n1, by rw [updL_ids, hfst], by rw [hadd, drop_at hid, addIds], fun j id' li' x' hj h1 h2 => ?_⟩
  have h3 := hold j id' li' x' (by omega) h1 h2
  have hne' : id' ≠ id := fun e => by
    subst e
    exact dup_of (by omega) hid h1 hnd
  unfold updL
  rw [List.getElem?_map, h3]
  simp [hne']
set_option maxHeartbeats 8000000 in
set_option maxRecDepth 100000 in
theorem Cancel_d (hn : 200 ≤ n) (h : SAt S lab o k s) (ok : StkOk 9999 s) (hl : ids.length ≤ 20) (hids : ∀ id ∈ ids, id.Ok) {di : D} (hdi : FLs 4 Lid.enc di ids) (cl : ByteArray) (w : Int) :
    WO (dcall E (n + 1) 53 [.loc k 0 0, di, .str cl, .int .i64 w] S) fun r T => r = .int .i64 (s.cancel ids cl w).1 ∧ ∃ lab', SAt T lab' o k (s.cancel ids cl w).2 ∧ Step o S lab T lab' := by
  obtain ⟨hf, m, ps, h⟩ := h
  obtain ⟨d, T, cf, hxT, hfd⟩ := find_c (n := n) (by omega) h ok hl hids hdi cl w false
  have hfT : FreshL T lab := fun z hz => hf z (Nat.le_trans hxT.len hz)
  have hST : Step o S lab T lab := by
    obtain ⟨J, rfl⟩ := exts_split hxT
    exact Step.push hf _
  have hT := h.keep (KeepO.ext hxT)
  refine wo_dcall Tryz.func53 rfl (by decide) rfl 91 rfl (fun a hal ha => ?_)
  have h0 : a[0]? = some (.loc k 0 0) := ha 0 (by simp)
  have h1 : a[1]? = some (di) := ha 1 (by simp)
  have h2 : a[2]? = some (.str cl) := ha 2 (by simp)
  have h3 : a[3]? = some (.int .i64 w) := ha 3 (by simp)
  clear ha
  unfold Stk.cancel
  by_cases e0 : s.named ids cl w false = 0
  case neg =>
    rw [if_pos e0]
    simp (maxSteps := 1000000) (disch := omega) only [push_cast, ↓wc_seq, ↓wc_condL, ↓wc_region, ↓wr_cons, ↓wr_nil, ↓wo_callf, ↓wc_ret, wo_some, opQ_eq, seqQ_normal, seqQ_ret, retQ_ret, pickC_true, int_bne, Nat.reduceAdd, Nat.reduceMul, Nat.reduceLT, Nat.reduceEqDiff, ↓reduceIte, planIds, hasExt, cntFs, idxFs, clnFs, ovlFs, List.contains_cons, List.contains_nil, List.any_cons, List.any_nil, Nat.reduceBEq, setC, List.length_set, reduceCtorEq, eq_self, Nat.zero_add, not_false_eq_true, hal, h0, h1, h2, h3, cf, e0, Tryz.f53]
    exact ⟨lab, ⟨hfT, m, ps, hT⟩, hST⟩
  rw [if_neg (by simpa using e0)]
  rw [e0] at cf
  obtain ⟨q, pl, rfl, hqS, hq, hpl, hptr⟩ := hfd e0
  obtain ⟨hw1, hne, hnd, hall⟩ := named_inv e0
  have hqT : lab q = [] := hf q (by omega)
  simp (maxSteps := 1000000) (disch := omega) only [push_cast, ↓wc_seq, ↓wc_block, ↓wc_condL, ↓wc_region, ↓wr_cons, ↓wr_nil, ↓wo_callf, ↓wc_skip, ↓wc_wl, wo_some, opQ_eq, seqQ_normal, pickC_false, int_bne, Nat.reduceAdd, Nat.reduceMul, Nat.reduceLT, Nat.reduceEqDiff, ↓reduceIte, planIds, hasExt, cntFs, idxFs, clnFs, ovlFs, List.contains_cons, List.contains_nil, List.any_cons, List.any_nil, Nat.reduceBEq, setC, List.length_set, reduceCtorEq, eq_self, Nat.zero_add, not_true_eq_false, hal, h0, h1, h2, h3, cf]
  refine wl_loop (fun i a U => U = T ∧ a.length = 91 ∧ a[2]? = some (.str cl) ∧ a[3]? = some (.int .i64 w) ∧ a[9]? = some (.os q 0 pl.length false) ∧ a[32]? = some (.os q 0 pl.length false) ∧ a[33]? = some (.int .i64 pl.length) ∧ a[34]? = some (.int .i64 i) ∧ ∀ (j : Nat) (id : Lid), j < i → ids[j]? = some id → ¬ ((s.get id).map (soldF · cl)).getD 0 < w) pl.length ?_ (by omega) ?_
  · simp (maxSteps := 1000000) (disch := omega) only [push_cast, Nat.reduceLT, Nat.reduceEqDiff, ↓reduceIte, setC, List.length_set, eq_self, hal, h2, h3, Int.natCast_zero]
    exact fun j id h => by omega
  clear hal h0 h1 h2 h3 a
  rintro i a U hi ⟨rfl, hal, h2, h3, h9, h32, h33, h34, hpd⟩
  rcases Nat.lt_or_eq_of_le hi with hlt | rfl
  · obtain ⟨p, hp⟩ : ∃ p, pl[i]? = some p := ⟨pl[i], by simp⟩
    obtain ⟨id, hid⟩ : ∃ id, ids[i]? = some id := ⟨ids[i]'(by omega), by simp⟩
    obtain ⟨li, x, ⟨a', b'⟩, e1, e2, e3, e4, e5⟩ := (hptr i id p hid hp).x
    obtain ⟨q2, es, hp4, hq2, -, hr⟩ := e4.parts
    have hok := ok.get e3
    obtain ⟨y, row, z, v, c1, c2, c3, c4, c5, c6, c7⟩ := hok.at_ e5
    obtain ⟨r, hr1, hr2, hr3⟩ := hr a' row c2
    have ha' : a' < x.sold.length := lt_of_get c2
    have hb' : b' < row.length := lt_of_get c5
    have cp := Place_c (n := n) (cl := cl) (by omega) hok.cfg.sm
    rw [e5] at cp
    simp only [Cfg.enc, placeD] at cp
    have hsv : ((s.get id).map (soldF · cl)).getD 0 = v := by
      rw [e3]
      show soldF x cl = v
      unfold soldF
      rw [e5]
      show soldAt x.sold a' b' = v
      unfold soldAt
      rw [c2, Option.bind_some, c5]
      rfl
    by_cases hvw : v < w
    · have hany : (ids.any fun id => decide (((s.get id).map (soldF · cl)).getD 0 < w)) = true := List.any_eq_true.2 ⟨id, mem_at hid, by rw [hsv]; exact decide_eq_true hvw⟩
      rw [if_pos hany]
      simp (maxSteps := 1000000) (disch := omega) only [push_cast, ↓wc_seq, ↓wc_block, ↓wc_condL, ↓wc_region, ↓wr_cons, ↓wr_nil, ↓wo_callf, ↓wc_ret, ↓wc_skip, wo_some, opQ_eq, seqQ_normal, seqQ_ret, blockQ_ret, iterQ_ret, retQ_ret, pickC_true, Nat.reduceAdd, Nat.reduceMul, Nat.reduceLT, Nat.reduceLeDiff, Nat.reduceEqDiff, ↓reduceIte, planIds, hasExt, cntFs, idxFs, clnFs, ovlFs, List.contains_cons, List.contains_nil, List.any_cons, List.any_nil, Nat.reduceBEq, setC, List.length_set, eq_self, Int.natCast_nonneg, Int.toNat_natCast, Int.ofNat_lt, Nat.zero_add, Nat.add_zero, hal, h2, h3, h32, h33, h34, hlt, hq, hp, hp4, hq2, hr1, hr3, c5, cp, ha', hb', hvw, List.getElem?_map, Tryz.f53]
      exact ⟨lab, ⟨hfT, m, ps, hT⟩, hST⟩
    · simp (maxSteps := 1000000) (disch := omega) only [push_cast, ↓wc_seq, ↓wc_block, ↓wc_condL, ↓wc_region, ↓wr_cons, ↓wr_nil, ↓wo_callf, ↓wc_skip, wo_some, opQ_eq, seqQ_normal, blockQ_normal, iterQ_normal, pickC_true, pickC_false, Nat.reduceAdd, Nat.reduceMul, Nat.reduceLT, Nat.reduceLeDiff, Nat.reduceEqDiff, ↓reduceIte, planIds, hasExt, cntFs, idxFs, clnFs, ovlFs, List.contains_cons, List.contains_nil, List.any_cons, List.any_nil, Nat.reduceBEq, setC, List.length_set, eq_self, Int.natCast_nonneg, Int.toNat_natCast, Int.ofNat_lt, Nat.zero_add, Nat.add_zero, hal, h2, h3, h9, h32, h33, h34, hlt, hq, hp, hp4, hq2, hr1, hr3, c5, cp, ha', hb', hvw, List.getElem?_map, wrap_ok, Int.natCast_add, Int.natCast_one]
      intro j id' hj h1
      by_cases ej : j = i
      · subst ej
        rw [hid] at h1
        cases h1
        rw [hsv]; exact hvw
      · exact hpd j id' (by omega) h1
  have hany : ¬ (ids.any fun id => decide (((s.get id).map (soldF · cl)).getD 0 < w)) = true := by
    rw [List.any_eq_true]
    rintro ⟨id, hid, hb⟩
    obtain ⟨j, hj⟩ := List.mem_iff_getElem?.1 hid
    exact hpd j id (by have := lt_of_get hj; omega) hj (of_decide_eq_true hb)
  rw [if_neg hany]
  simp (maxSteps := 1000000) (disch := omega) only [push_cast, ↓wc_seq, ↓wc_block, ↓wc_condL, ↓wc_region, ↓wr_cons, ↓wr_nil, ↓wc_exit, ↓wc_wl, wo_some, opQ_eq, seqQ_normal, seqQ_exit, blockQ_exit, iterQ_exit, pickC_false, Nat.reduceAdd, Nat.reduceMul, Nat.reduceLT, Nat.reduceEqDiff, ↓reduceIte, planIds, List.contains_cons, List.contains_nil, Nat.reduceBEq, setC, List.length_set, eq_self, Int.ofNat_lt, Nat.zero_add, hal, h9, h33, h34, Nat.lt_irrefl]
  refine wl_loop (fun i a V => a.length = 91 ∧ a[2]? = some (.str cl) ∧ a[3]? = some (.int .i64 w) ∧ a[61]? = some (.os q 0 pl.length false) ∧ a[62]? = some (.int .i64 pl.length) ∧ a[63]? = some (.int .i64 i) ∧ Step o U lab V lab ∧ ∃ legs, StkAt V lab o kL (.loc k 0 0) { s with legs := legs } k m ps ∧ legs.map (·.1) = s.legs.map (·.1) ∧ addIds cl (-w) ids s.legs = addIds cl (-w) (ids.drop i) legs ∧ ∀ (j : Nat) (id : Lid) (li : Nat) (x : Leg), i ≤ j → ids[j]? = some id → s.legs[li]? = some (id, x) → legs[li]? = some (id, x)) pl.length ?_ (by omega) ?_
  · simp (maxSteps := 1000000) (disch := omega) only [push_cast, Nat.reduceLT, Nat.reduceEqDiff, ↓reduceIte, setC, List.length_set, eq_self, hal, h2, h3, Int.natCast_zero, List.drop_zero]
    exact ⟨Step.refl hfT, s.legs, hT, rfl, rfl, fun j id li x _ _ h => h⟩
  clear hal h2 h3 h9 h32 h33 h34 a
  clear hi
  rintro i a V hi ⟨hal, h2, h3, h61, h62, h63, hsU, legs, hU, hfst, hadd, hold⟩
  rcases Nat.lt_or_eq_of_le hi with hlt | rfl
  case inr =>
    have hfin : addIds cl (-w) ids s.legs = legs := by
      rw [hadd, List.drop_eq_nil_of_le (by omega)]; rfl
    rw [hfin]
    simp (maxSteps := 1000000) (disch := omega) only [push_cast, ↓wc_seq, ↓wc_condL, ↓wc_region, ↓wr_cons, ↓wr_nil, ↓wc_exit, ↓wc_ret, wo_some, opQ_eq, seqQ_normal, seqQ_exit, blockQ_exit, iterQ_exit, retQ_ret, pickC_false, Nat.reduceAdd, Nat.reduceMul, Nat.reduceLT, ↓reduceIte, planIds, List.contains_cons, List.contains_nil, Nat.reduceBEq, setC, List.length_set, eq_self, Int.ofNat_lt, Nat.zero_add, hal, h62, h63, Nat.lt_irrefl, Tryz.f53]
    exact ⟨lab, ⟨hsU.fresh, m, ps, hU⟩, hST.trans hsU⟩
  obtain ⟨p, hp⟩ : ∃ p, pl[i]? = some p := ⟨pl[i], by simp⟩
  obtain ⟨id, hid⟩ : ∃ id, ids[i]? = some id := ⟨ids[i]'(by omega), by simp⟩
  obtain ⟨li, x, ⟨a', b'⟩, e1, e2, e3, e4, e5⟩ := (hptr i id p hid hp).x
  have hli := hold i id li x (Nat.le_refl _) hid e1
  obtain ⟨p', g1, g2⟩ := hU.leg li id x hli
  rw [e2] at g1
  have hpp : p = p' := by simpa using g1
  subst hpp
  obtain ⟨q2, es, hp4, hq2, -, hr⟩ := g2.parts
  have hok := ok.get e3
  obtain ⟨y, row, z, v, c1, c2, c3, c4, c5, c6, c7⟩ := hok.at_ e5
  obtain ⟨r, hr1, hr2, hr3⟩ := hr a' row c2
  have hvb := hok.rng (by omega) c2 v (mem_at c5)
  have hsv : ((s.get id).map (soldF · cl)).getD 0 = v := by
    rw [e3]
    show soldF x cl = v
    unfold soldF
    rw [e5]
    show soldAt x.sold a' b' = v
    unfold soldAt
    rw [c2, Option.bind_some, c5]
    rfl
  have hvw := hpd i id hlt hid
  rw [hsv] at hvw
  have ha' : a' < x.sold.length := lt_of_get c2
  have hb' : b' < row.length := lt_of_get c5
  have hsm := set_modify (n := -w) c5
  have hsub : v - w = v + -w := by omega
  have cp := Place_c (n := n) (cl := cl) (by omega) hok.cfg.sm
  rw [e5] at cp
  simp only [Cfg.enc, placeD] at cp
  have hqU := (hsU.free hq hqT).1
  have hndL : (legs.map (·.1)).Nodup := by rw [hfst]; exact ok.ids
  obtain ⟨n1, n2⟩ := hU.put (w := -w) hsU.fresh hndL hli e2 g2 e5 c2 hq2 hp4 hr1 hr2
  have hlr := lt_of_get hr3
  have hwrap : IntKind.i64.wrap (v - w) = v + -w := by rw [wrap_ok (by omega) (by omega)]; exact hsub
  simp (maxSteps := 1000000) (disch := omega) only [push_cast, ↓wc_seq, ↓wc_block, ↓wc_condL, ↓wc_region, ↓wr_cons, ↓wr_nil, ↓wo_callf, ↓wc_skip, wo_some, opQ_eq, seqQ_normal, blockQ_normal, iterQ_normal, pickC_true, Nat.reduceAdd, Nat.reduceMul, Nat.reduceLT, Nat.reduceLeDiff, Nat.reduceEqDiff, ↓reduceIte, planIds, hasExt, cntFs, idxFs, clnFs, ovlFs, List.contains_cons, List.contains_nil, List.any_cons, List.any_nil, Nat.reduceBEq, setC, List.length_set, eq_self, Int.natCast_nonneg, Int.toNat_natCast, Int.ofNat_lt, Nat.zero_add, Nat.add_zero, hal, h2, h3, h61, h62, h63, hlt, hqU, hp, hp4, hq2, hr1, hr3, c5, cp, ha', hb', hwrap, hsm, List.getElem?_map, wrap_ok, Int.natCast_add, Int.natCast_one]
  refine ⟨hsU.trans n2, _, n1, by rw [updL_ids, hfst], by rw [hadd, drop_at hid, addIds], fun j id' li' x' hj h1 h2 => ?_⟩
  have h3 := hold j id' li' x' (by omega) h1 h2
  have hne' : id' ≠ id := fun e => by
    subst e
    exact dup_of (by omega) hid h1 hnd
  unfold updL
  rw [List.getElem?_map, h3]
  simp [hne']
end
set_option linter.unusedSimpArgs false

theorem likeD_eq (o : Option ByteArray) : likeD o = .tup [.str (o.getD (ByteArray.mk #[])), .bool o.isSome] := by cases o <;> rfl
theorem placeD_eq (o : Option (Nat × Nat)) : placeD o = .tup [.int .i64 (o.getD (0, 0)).1, .int .i64 (o.getD (0, 0)).2, .bool o.isSome] := by rcases o with _ | ⟨a, b⟩ <;> rfl
/-- A table of a configuration's form, with numbers up to a bound. -/
structure Tab (b : Cfg) (M : Int) (t : List (List Int)) : Prop where
  len : t.length = b.cabs.length
  row : ∀ (i : Nat) (y : Cab) (r : List Int), b.cabs[i]? = some y → t[i]? = some r → r.length = y.cls.length
  bd : ∀ (i : Nat) (r : List Int), t[i]? = some r → ∀ v ∈ r, 0 ≤ v ∧ v ≤ M
theorem Tab.empty {b : Cfg} : Tab b 0 (emptyF b) := by
  refine ⟨by simp [emptyF], fun i y r h1 h2 => ?_, fun i r h v hv => ?_⟩
  · unfold emptyF at h2
    rw [List.getElem?_map, h1] at h2
    cases h2
    simp
  · unfold emptyF at h
    rw [List.getElem?_map] at h
    obtain ⟨y, -, rfl⟩ := Option.map_eq_some_iff.1 h
    have := (List.mem_replicate.1 hv).2
    omega
theorem Tab.mono {b : Cfg} {M N : Int} {t : List (List Int)} (h : Tab b M t) (hM : M ≤ N) : Tab b N t :=
  ⟨h.len, h.row, fun i r hr v hv => by have := h.bd i r hr v hv; omega⟩
theorem Tab.add {b : Cfg} {M w : Int} {t : List (List Int)} {i k : Nat} (h : Tab b M t) (h0 : 0 ≤ w) (hw : w ≤ 9999) : Tab b (M + 9999) (addAt t i k w) := by
  refine ⟨by rw [addAt, List.length_modify]; exact h.len, fun j y r h1 h2 => ?_, fun j r hr v hv => ?_⟩
  · unfold addAt at h2
    rw [modify_at] at h2
    obtain ⟨q, hq, rfl⟩ := Option.map_eq_some_iff.1 h2
    have := h.row j y q h1 hq
    split
    · rw [List.length_modify]; exact this
    · exact this
  · unfold addAt at hr
    rw [modify_at] at hr
    obtain ⟨q, hq, rfl⟩ := Option.map_eq_some_iff.1 hr
    have hb := h.bd j q hq
    split at hv
    · obtain ⟨m, hm⟩ := List.mem_iff_getElem?.1 hv
      rw [modify_at] at hm
      obtain ⟨u, hu, rfl⟩ := Option.map_eq_some_iff.1 hm
      have := hb u (mem_at hu)
      split <;> omega
    · have := hb v hv
      omega
/-- Where seats go, there is a place. -/
theorem to_at {a b : Cfg} {M : Int} {t : List (List Int)} (hb : CfgOk b) (h : Tab b M t) (cl : ByteArray) : ∃ r v, t[(toF a b cl).1]? = some r ∧ r[(toF a b cl).2]? = some v ∧ 0 ≤ v ∧ v ≤ M := by
  have key : ∃ y, b.cabs[(toF a b cl).1]? = some y ∧ (toF a b cl).2 < y.cls.length := by
    unfold toF
    cases hp : placeF ((likeF a.cabs b.cabs cl).getD (ByteArray.mk #[])) 0 b.cabs with
    | none =>
      have h1 := hb.l1
      have h2 : b.cabs[0]? = some b.cabs[0] := List.getElem?_eq_getElem (by omega)
      have h3 := (hb.cab _ (mem_at h2)).l1
      exact ⟨_, h2, h3⟩
    | some q =>
      obtain ⟨y, z, h1, h2, -⟩ := place_at (a := q.1) (b := q.2) hp
      exact ⟨y, h1, lt_of_get h2⟩
  obtain ⟨y, h1, h2⟩ := key
  have hi : (toF a b cl).1 < t.length := by rw [h.len]; exact lt_of_get h1
  have hr : t[(toF a b cl).1]? = some t[(toF a b cl).1] := List.getElem?_eq_getElem hi
  have hl := h.row _ y _ h1 hr
  have hv : (t[(toF a b cl).1])[(toF a b cl).2]? = some ((t[(toF a b cl).1])[(toF a b cl).2]'(by omega)) := List.getElem?_eq_getElem (by omega)
  have := h.bd _ _ hr _ (mem_at hv)
  exact ⟨_, _, hr, hv, this.1, this.2⟩
theorem TabAt.parts {S : List Ob} {lab : Lab} {o i q n : Nat} {t : List (List Int)} (h : TabAt S lab o i (.os q 0 n false) t) : ∃ es, S[q]? = some (.row 1 es) ∧ lab q = [o, 2, i] ∧ ∀ (j : Nat) (row : List Int), t[j]? = some row → ∃ r, es[j]? = some [.os r 0 row.length false] ∧ lab r = [o, 3, i, j] ∧ S[r]? = some (.row 1 (row.map encZ)) := by
  obtain ⟨q', r, es, e, h2, h3, h4, h5⟩ := h
  cases e
  exact ⟨es, h3, h2, fun j row hj => ⟨r j, h5 j row hj⟩⟩
theorem TabAt.push {S : List Ob} {lab : Lab} {o i : Nat} {d : D} {t : List (List Int)} (h : TabAt S lab o i d t) (J : List Ob) : TabAt (S ++ J) lab o i d t := h.keep fun _ _ _ hx _ => ⟨get_old hx, rfl⟩
section
variable {S : List Ob} {lab : Lab} {o k m n : Nat} {s : Stk} {ps : List (D × D)} {ids : List Lid} {id : Lid}
set_option maxHeartbeats 16000000 in
set_option maxRecDepth 100000 in
theorem SResize_d (hn : 200 ≤ n) (h : SAt S lab o k s) (ok : StkOk 9999 s) (hs : s.l.length ≤ 100) (hid : id.Ok) (e : ByteArray) :
    WO (dcall E (n + 1) 66 [.loc k 0 0, .agg id.enc, .str e] S) fun r T => r = .int .i64 (s.resize id e).1 ∧ ∃ lab', SAt T lab' o k (s.resize id e).2 ∧ Step o S lab T lab' := by
  obtain ⟨hf, m, ps, h⟩ := h
  have hx := h.push [.row 4 [id.enc]]
  have cm := made_c (n := n) (by omega) hx.row
  have kl := keyOk_lid hid
  have ks := keys_lid
  have cf := Find_c (n := n) (l := s.l) (x := s.x) (e := e) (by omega) hs
  have hxr := hx.row
  have hxm := hx.map
  refine wo_dcall Tryz.func66 rfl (by decide) rfl 112 rfl (fun a hal ha => ?_)
  have h0 : a[0]? = some (.loc k 0 0) := ha 0 (by simp)
  have h1 : a[1]? = some (.agg id.enc) := ha 1 (by simp)
  have h2 : a[2]? = some (.str e) := ha 2 (by simp)
  clear ha
  unfold Stk.resize
  rcases hx.look id with ⟨e1, e2⟩ | ⟨i, x, p, hi, -, e1, e2, hp, hl⟩
  · rw [e1]
    rcases hfd : findF s.l e with _ | b
    · rw [hfd] at cf
      simp only [foundC] at cf
      simp only [Lid.enc] at h1 cm kl e2 hxr hxm
      simp (maxSteps := 1000000) (disch := omega) only [push_cast, ↓wc_seq, ↓wc_condL, ↓wc_region, ↓wr_cons, ↓wr_consgL, ↓wr_nil, ↓wo_pickL, ↓wo_callf, ↓wc_ret, ↓wc_skip, wo_some, opQ_eq, seqQ_normal, seqQ_ret, retQ_ret, pickC_true, pickC_false, pickO_true, gstep_tf, Nat.reduceAdd, Nat.reduceMul, Nat.reduceLT, Nat.reduceLeDiff, Nat.reduceEqDiff, ↓reduceIte, planIds, hasExt, cntFs, idxFs, clnFs, ovlFs, List.contains_cons, List.contains_nil, List.any_cons, List.any_nil, Nat.reduceBEq, setC, List.length_set, reduceCtorEq, eq_self, Nat.zero_add, Nat.add_zero, hal, h0, h1, h2, get_end, set_end, hxr, hxm, cm, kl, ks, e2, cf, dUn, eqp_leg0, Tryz.f66]
      exact ⟨lab, ⟨(hf.push _).push _, m, ps, hx.push _⟩, (Step.push hf _).trans (Step.push (hf.push _) _)⟩
    · rw [hfd] at cf
      simp only [foundC, Cfg.enc] at cf
      simp only [Lid.enc] at h1 cm kl e2 hxr hxm
      simp (maxSteps := 1000000) (disch := omega) only [push_cast, ↓wc_seq, ↓wc_condL, ↓wc_region, ↓wr_cons, ↓wr_consgL, ↓wr_nil, ↓wo_pickL, ↓wo_callf, ↓wc_ret, ↓wc_skip, wo_some, opQ_eq, seqQ_normal, seqQ_ret, retQ_ret, pickC_true, pickC_false, pickO_true, gstep_tf, Nat.reduceAdd, Nat.reduceMul, Nat.reduceLT, Nat.reduceLeDiff, Nat.reduceEqDiff, ↓reduceIte, planIds, hasExt, cntFs, idxFs, clnFs, ovlFs, List.contains_cons, List.contains_nil, List.any_cons, List.any_nil, Nat.reduceBEq, setC, List.length_set, reduceCtorEq, eq_self, Nat.zero_add, Nat.add_zero, hal, h0, h1, h2, get_end, set_end, hxr, hxm, cm, kl, ks, e2, cf, dUn, eqp_leg0, Tryz.f66]
      exact ⟨lab, ⟨(hf.push _).push _, m, ps, hx.push _⟩, (Step.push hf _).trans (Step.push (hf.push _) _)⟩
  rw [e1]
  rcases hfd : findF s.l e with _ | b
  · rw [hfd] at cf
    simp only [foundC] at cf
    simp only [Lid.enc] at h1 cm kl e2 hxr hxm
    simp (maxSteps := 1000000) (disch := omega) only [push_cast, ↓wc_seq, ↓wc_condL, ↓wc_region, ↓wr_cons, ↓wr_consgL, ↓wr_nil, ↓wo_pickL, ↓wo_callf, ↓wc_ret, ↓wc_skip, wo_some, opQ_eq, seqQ_normal, seqQ_ret, retQ_ret, pickC_true, pickC_false, pickO_false, gstep_ff, Nat.reduceAdd, Nat.reduceMul, Nat.reduceLT, Nat.reduceLeDiff, Nat.reduceEqDiff, ↓reduceIte, planIds, hasExt, cntFs, idxFs, clnFs, ovlFs, List.contains_cons, List.contains_nil, List.any_cons, List.any_nil, Nat.reduceBEq, setC, List.length_set, reduceCtorEq, eq_self, Nat.zero_add, Nat.add_zero, hal, h0, h1, h2, get_end, set_end, hxr, hxm, cm, kl, ks, e2, cf, dUn, eqp_leg, Tryz.f66]
    exact ⟨lab, ⟨(hf.push _).push _, m, ps, hx.push _⟩, (Step.push hf _).trans (Step.push (hf.push _) _)⟩
  rw [hfd] at cf
  dsimp only
  have hcm : b ∈ s.l := by unfold findF at hfd; exact List.mem_of_find?_eq_some hfd
  have hco := ok.cfgs.cfg b hcm
  have hok := ok.get e1
  have hf2 : FreshL (S ++ [Ob.row 4 [id.enc]] ++ [Ob.row 2 [b.enc]]) lab := (hf.push _).push _
  obtain ⟨d, T, lab2, ce, ht, ⟨q, len, rfl⟩, hf3, hl3, hx3⟩ := empty_c (n := n) (o := o) (i := i) (by omega) hco hf2
  have hx2 := hx.push [.row 2 [b.enc]]
  have hl2 : LegAt (S ++ [Ob.row 4 [id.enc]] ++ [Ob.row 2 [b.enc]]) lab o i p x := legAt_push hl _
  generalize hU0 : S ++ [Ob.row 4 [id.enc]] ++ [Ob.row 2 [b.enc]] = U0 at *
  have hU0l : U0.length = S.length + 2 := by rw [← hU0]; simp
  have hbox : U0[(S ++ [Ob.row 4 [id.enc]]).length]? = some (.row 2 [b.enc]) := by rw [← hU0]; exact get_end
  have hSU : ExtS S U0 := by rw [← hU0]; exact fun j y hj => get_old (get_old hj)
  have hcl4 := hok.cfg.l2
  have hsm := hok.cfg.sm
  obtain ⟨q0, es0, hp0, -, -, -⟩ := hl2.parts
  have hp1 := hx3 _ _ hp0
  have hidx := hx.row
  simp only [Lid.enc] at h1 cm kl e2 hxr hxm hU0
  simp only [foundC, Cfg.enc] at cf
  simp only [Cfg.enc, Lid.enc] at ce hbox hU0
  have hTl : (emptyF b).length = b.cabs.length := by simp [emptyF]
  simp (maxSteps := 1000000) (disch := omega) only [push_cast, ↓wc_seq, ↓wc_block, ↓wc_condL, ↓wc_region, ↓wr_cons, ↓wr_consgL, ↓wr_nil, ↓wo_pickL, ↓wo_callf, ↓wc_skip, ↓wc_wl, wo_some, opQ_eq, seqQ_normal, pickC_false, pickO_false, gstep_ff, Nat.reduceAdd, Nat.reduceMul, Nat.reduceLT, Nat.reduceLeDiff, Nat.reduceEqDiff, ↓reduceIte, planIds, hasExt, cntFs, idxFs, clnFs, ovlFs, List.contains_cons, List.contains_nil, List.any_cons, List.any_nil, Nat.reduceBEq, setC, List.length_set, reduceCtorEq, eq_self, Nat.zero_add, Nat.add_zero, hal, h0, h1, h2, get_end, set_end, hxr, hxm, cm, kl, ks, e2, cf, dUn, eqp_leg, hU0, hbox, ce, hp1]
  obtain ⟨B8, hB8⟩ : ∃ B, B = (S ++ [Ob.row 4 [[.str id.c, .int .i64 id.n, .int .i64 id.d, .str id.f]]]).length := ⟨_, rfl⟩
  have hboxT : T[B8]? = some (.row 2 [[.str b.equip, .sl 4 (b.cabs.map Cab.enc) b.cabsx]]) := by rw [hB8]; exact hx3 _ _ hbox
  have hB8l : B8 < U0.length := by rw [hB8]; exact lt_of_get hbox
  have hlen : len = b.cabs.length := by
    obtain ⟨q', r, es, e', -⟩ := ht
    injection e' with _ _ e'
    rw [e', hTl]
  refine wl_loop (fun c a U => a.length = 112 ∧ a[7]? = some (.loc p 0 0) ∧ a[8]? = some (.loc B8 0 0) ∧ a[10]? = some (.os q 0 len false) ∧ a[50]? = some (.sl 4 (x.cfg.cabs.map Cab.enc) x.cfg.cabsx) ∧ a[51]? = some (.int .i64 x.cfg.cabs.length) ∧ a[52]? = some (.int .i64 c) ∧ ExtS U0 U ∧ FreshL U lab2 ∧ ∃ t, t = (slC x.cfg.cabs c).foldl (moveF x.cfg b x.sold) (emptyF b) ∧ TabAt U (cutL U0.length lab2) o i (.os q 0 len false) t ∧ Tab b (9999 * (slC x.cfg.cabs c).length) t) x.cfg.cabs.length ?_ (by omega) ?_
  · simp (maxSteps := 1000000) (disch := omega) only [push_cast, Nat.reduceLT, Nat.reduceEqDiff, ↓reduceIte, setC, List.length_set, eq_self, hal, Int.natCast_zero, List.length_map, ← hB8]
    exact ⟨hx3, hf3, _, rfl, ht, Tab.empty⟩
  clear hal h0 h1 h2 a
  rintro c a U hc ⟨hal, h7, h8, h10, h50, h51, h52, hxU, hfU, t, ht', hT', hTab⟩
  rcases Nat.lt_or_eq_of_le hc with hlt | rfl
  case inr =>
    have hres : resizeF x b = { x with cfg := b, sold := t } := by
      rw [ht']; rfl
    have hpU := hxU _ _ hp0
    have hbxU := hxU B8 _ (by rw [hB8]; exact hbox)
    have hlp := lt_of_get hpU
    have hpS := lt_of_get hp0
    have hT2 := hT'.uncut
    have hlb : ∀ z, z < U0.length → lab2 z = lab z := hl3
    have hfin : SAt (U.set p (.row 4 [legCells { x with cfg := b, sold := t } (.os q 0 len false)])) lab2 o k { s with legs := updL s.legs id (resizeF · b) } ∧ Step o S lab (U.set p (.row 4 [legCells { x with cfg := b, sold := t } (.os q 0 len false)])) lab2 := by
      have hfr : FreshL (U.set p (.row 4 [legCells { x with cfg := b, sold := t } (.os q 0 len false)])) lab2 := fun z hz => hfU z (by simpa using hz)
      refine ⟨⟨hfr, m, ps, hx2.upd ok.ids hi hp (fun z ob hz n1 n2 n3 => ?_) hlb ?_⟩, ⟨?_, hfr, fun z hz => hlb z (by omega), fun z hz hne => ?_⟩⟩
      · rw [List.getElem?_set_ne]
        · exact hxU z ob hz
        · rintro rfl; exact n1 hl2.1
      · rw [hres]
        refine ⟨by rw [hlb p hpS]; exact hl2.1, _, List.getElem?_set_self hlp, hT2.keep fun z ob tl hz hl => ⟨?_, rfl⟩⟩
        rw [List.getElem?_set_ne]
        · exact hz
        · rintro rfl
          rw [hlb p hpS, hl2.1] at hl
          rcases hl with hl | ⟨j, hl⟩ <;> simp at hl
      · rw [List.length_set]
        have := hxU.len
        omega
      · rw [List.getElem?_set_ne]
        · rw [List.getElem?_eq_getElem hz]
          exact hxU z _ (hSU z _ (List.getElem?_eq_getElem hz))
        · rintro rfl
          rw [hl2.1] at hne
          simp at hne
    simp only [legCells] at hfin
    simp (maxSteps := 1000000) (disch := omega) only [push_cast, ↓wc_seq, ↓wc_condL, ↓wc_region, ↓wr_cons, ↓wr_nil, ↓wc_exit, ↓wc_ret, wo_some, opQ_eq, seqQ_normal, seqQ_exit, blockQ_exit, iterQ_exit, retQ_ret, pickC_false, Nat.reduceAdd, Nat.reduceMul, Nat.reduceLT, Nat.reduceLeDiff, Nat.reduceEqDiff, ↓reduceIte, planIds, List.contains_cons, List.contains_nil, Nat.reduceBEq, setC, List.length_set, eq_self, Int.ofNat_lt, Nat.zero_add, Nat.add_zero, hal, h7, h8, h10, h51, h52, Nat.lt_irrefl, hpU, hbxU, hlp, List.set_set, Tryz.f66]
    exact ⟨lab2, hfin⟩
  obtain ⟨y, hy⟩ : ∃ y, x.cfg.cabs[c]? = some y := ⟨x.cfg.cabs[c], by simp [hlt]⟩
  obtain ⟨row, hrow, hrl, hyo⟩ := leg_sizes hok hy
  have hl26 := hyo.l2
  have hrng := hok.rng (by omega) hrow
  simp (maxSteps := 1000000) (disch := omega) only [push_cast, ↓wc_seq, ↓wc_block, ↓wc_condL, ↓wc_region, ↓wr_cons, ↓wr_nil, ↓wc_skip, ↓wc_wl, wo_some, opQ_eq, seqQ_normal, pickC_true, Nat.reduceAdd, Nat.reduceMul, Nat.reduceLT, Nat.reduceLeDiff, Nat.reduceEqDiff, ↓reduceIte, planIds, List.contains_cons, List.contains_nil, Nat.reduceBEq, setC, List.length_set, eq_self, Int.natCast_nonneg, Int.toNat_natCast, Int.ofNat_lt, Nat.zero_add, hal, h50, h51, h52, hlt, hy, set_end, get_end, List.length_map, List.getElem?_map, Cab.enc]
  refine wl_loop (fun j a U => a.length = 112 ∧ a[7]? = some (.loc p 0 0) ∧ a[8]? = some (.loc B8 0 0) ∧ a[10]? = some (.os q 0 len false) ∧ a[11]? = some (.int .i64 c) ∧ a[50]? = some (.sl 4 (x.cfg.cabs.map Cab.enc) x.cfg.cabsx) ∧ a[51]? = some (.int .i64 x.cfg.cabs.length) ∧ a[52]? = some (.int .i64 c) ∧ a[58]? = some (.sl 2 (y.cls.map Cls.enc) y.clsx) ∧ a[59]? = some (.int .i64 y.cls.length) ∧ a[60]? = some (.int .i64 j) ∧ ExtS U0 U ∧ FreshL U lab2 ∧ ∃ t, t = (slC x.cfg.cabs c ++ slJ c y j).foldl (moveF x.cfg b x.sold) (emptyF b) ∧ TabAt U (cutL U0.length lab2) o i (.os q 0 len false) t ∧ Tab b (9999 * (slC x.cfg.cabs c ++ slJ c y j).length) t) y.cls.length ?_ (by omega) ?_
  · simp (maxSteps := 1000000) (disch := omega) only [push_cast, Nat.reduceLT, Nat.reduceEqDiff, ↓reduceIte, setC, List.length_set, eq_self, hal, h7, h8, h10, h50, h51, h52, Int.natCast_zero, slJ]
    exact ⟨hxU.push _, hfU.push _, _, rfl, by rw [← ht']; exact hT'.push _, by rw [← ht']; exact hTab⟩
  clear hal h7 h8 h10 h50 h51 h52 a
  clear hxU hfU hT' hTab ht' t U
  rintro j a U hj ⟨hal, h7, h8, h10, h11, h50, h51, h52, h58, h59, h60, hxU, hfU, t, ht', hT', hTab⟩
  rcases Nat.lt_or_eq_of_le hj with hlj | rfl
  case inr =>
    rw [← slC_succ hy] at ht' hTab
    simp (maxSteps := 1000000) (disch := omega) only [push_cast, ↓wc_seq, ↓wc_condL, ↓wc_region, ↓wr_cons, ↓wr_nil, ↓wc_exit, wo_some, opQ_eq, seqQ_normal, seqQ_exit, blockQ_normal, blockQ_exit, iterQ_normal, iterQ_exit, pickC_false, Nat.reduceAdd, Nat.reduceMul, Nat.reduceLT, Nat.reduceEqDiff, ↓reduceIte, planIds, List.contains_cons, List.contains_nil, Nat.reduceBEq, setC, List.length_set, eq_self, Int.ofNat_lt, Nat.zero_add, hal, h7, h8, h10, h50, h51, h52, h59, h60, Nat.lt_irrefl, hlt, wrap_ok, Int.natCast_add, Int.natCast_one]
    exact ⟨hxU, hfU, t, ht', hT', hTab⟩
  obtain ⟨z, hz⟩ : ∃ z, y.cls[j]? = some z := ⟨y.cls[j], by simp [hlj]⟩
  obtain ⟨v, hv⟩ : ∃ v, row[j]? = some v := ⟨row[j], by simp [hrl, hlj]⟩
  have hvb := hrng v (mem_at hv)
  have hjr : j < row.length := by omega
  have hcs : c < x.sold.length := lt_of_get hrow
  have hn1 := slC_len hsm.cls c
  have hn2 := slJ_len c y j
  obtain ⟨row', v', w1, w2, w3, w4⟩ := to_at (a := x.cfg) hco hTab z.code
  rw [List.length_append] at w4
  have hbnd : (9999 * (((slC x.cfg.cabs c).length + (slJ c y j).length : Nat) : Int)) ≤ 9999 * 1000 := by omega
  have hE1 : ExtS U0 (U ++ [Ob.row 2 [[.str z.code, .int .i64 z.prot]]]) := hxU.push _
  have hT1 := hT'.push [Ob.row 2 [[.str z.code, .int .i64 z.prot]]]
  obtain ⟨es', hq', hlq', hr'⟩ := hT1.parts
  obtain ⟨r', hr1', hr2', hr3'⟩ := hr' _ _ w1
  have hl3 := hl2.keep (KeepO.ext hE1)
  obtain ⟨qo, eso, hpo, hqo, -, hro⟩ := hl3.parts
  obtain ⟨ro, hro1, -, hro3⟩ := hro c row hrow
  have hbx := hE1 B8 _ (by rw [hB8]; exact hbox)
  have clk := Like_c (n := n) (a := x.cfg) (b := b) (cl := z.code) (by omega) hok.cfg.sm hco.sm
  have cpl := Place_c (n := n) (c := b) (cl := (likeF x.cfg.cabs b.cabs z.code).getD (ByteArray.mk #[])) (by omega) hco.sm
  rw [likeD_eq] at clk
  rw [placeD_eq] at cpl
  change ∀ st S, callD E (dcall E n) st S 86 [.agg b.enc, .str ((likeF x.cfg.cabs b.cabs z.code).getD (ByteArray.mk #[]))] = some (.tup [.int .i64 (toF x.cfg b z.code).1, .int .i64 (toF x.cfg b z.code).2, .bool (placeF ((likeF x.cfg.cabs b.cabs z.code).getD (ByteArray.mk #[])) 0 b.cabs).isSome], S) at cpl
  have hmv : (slC x.cfg.cabs c ++ slJ c y (j + 1)).foldl (moveF x.cfg b x.sold) (emptyF b) = addAt t (toF x.cfg b z.code).1 (toF x.cfg b z.code).2 v := by
    rw [slJ_succ hz, ← List.append_assoc, List.foldl_append, ← ht']
    show addAt t _ _ (soldAt x.sold c j) = _
    unfold soldAt
    rw [hrow, Option.bind_some, hv]
    rfl
  have hlen2 : (slC x.cfg.cabs c ++ slJ c y (j + 1)).length = (slC x.cfg.cabs c ++ slJ c y j).length + 1 := by
    rw [slJ_succ hz, ← List.append_assoc, List.length_append (bs := [_])]
    rfl
  have hTab2 := hTab.add (i := (toF x.cfg b z.code).1) (k := (toF x.cfg b z.code).2) hvb.1 hvb.2
  have hx'l : (toF x.cfg b z.code).1 < len := by rw [hlen, ← hTab.len]; exact lt_of_get w1
  have hy'l : (toF x.cfg b z.code).2 < row'.length := lt_of_get w2
  generalize (likeF x.cfg.cabs b.cabs z.code).getD (ByteArray.mk #[]) = lk at *
  generalize toF x.cfg b z.code = tx at *
  obtain ⟨x', y'⟩ := tx
  dsimp only at w1 w2 hr1' hmv hTab2 hx'l hy'l cpl
  have hlr := lt_of_get hr3'
  have hadd := hT1.add (b := y') (n := v) w1 hr2' ⟨q, es', by rw [hTab.len, hlen], hq', hr1'⟩
  have hsm2 := set_modify (n := v) w2
  simp only [Cfg.enc] at clk cpl
  simp (maxSteps := 1000000) (disch := omega) only [push_cast, ↓wc_seq, ↓wc_block, ↓wc_condL, ↓wc_region, ↓wr_cons, ↓wr_nil, ↓wo_callf, ↓wc_skip, wo_some, opQ_eq, seqQ_normal, blockQ_normal, iterQ_normal, pickC_true, Nat.reduceAdd, Nat.reduceMul, Nat.reduceLT, Nat.reduceLeDiff, Nat.reduceEqDiff, ↓reduceIte, planIds, hasExt, cntFs, idxFs, clnFs, ovlFs, List.contains_cons, List.contains_nil, List.any_cons, List.any_nil, Nat.reduceBEq, setC, List.length_set, eq_self, Int.natCast_nonneg, Int.toNat_natCast, Int.ofNat_lt, Nat.zero_add, Nat.add_zero, hal, h7, h8, h10, h11, h50, h51, h52, h58, h59, h60, hlj, hz, set_end, get_end, hpo, hqo, hro1, hro3, hv, hbx, hq', hr1', hr3', w2, clk, cpl, hcs, hjr, hx'l, hy'l, hsm2, List.getElem?_map, Cls.enc, wrap_ok, Int.natCast_add, Int.natCast_one]
  refine ⟨hE1.set (cutL_eq hr2').1 _, fun zz hzz => ?_, _, hmv.symm, hadd, ?_⟩
  · rw [List.length_set, List.length_append] at hzz
    exact hfU zz (by omega)
  · rw [hlen2]
    exact hTab2.mono (by omega)
end
end Go.Proofs.YtajhgnefcddenaaGreatDoor.Dm
