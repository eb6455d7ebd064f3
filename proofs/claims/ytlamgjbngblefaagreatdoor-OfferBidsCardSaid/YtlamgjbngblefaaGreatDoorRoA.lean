/-
  The reference's availability of a journey; calls of both inventories.
-/
import Derived.Test.YtlamgjbngblefaaGreatDoorRsD
import Derived.Test.YtlamgjbngblefaaGreatDoorSkJ
namespace Go.Proofs.YtlamgjbngblefaaGreatDoor.Dm
open Go Gw
set_option linter.unusedSimpArgs false
set_option linter.unusedSimpArgs false

section
variable {S : List Ob} {lab : Lab} {o k n : Nat} {s : Stk} {rd : D} {rows : List RRow} {id : Lid} {ids : List Lid}
set_option maxHeartbeats 8000000 in
set_option maxRecDepth 100000 in
theorem rusable_c (hn : 190 ≤ n) (h : RefAt S lab o s k rd rows) (hrl : rows.length ≤ 100) (hl : ids.length ≤ 20) {di : D} (hdi : FLs 4 Lid.enc di ids) (st : Bool) :
    callD E (dcall E n) st S 55 [.loc k 0 0, di] = some (.bool (usF s ids), S) := by
  obtain ⟨q, rfl⟩ : ∃ q, n = q + 1 := ⟨n - 1, by omega⟩
  have : WO (dcall E (q + 1) 55 [.loc k 0 0, di] S) fun r T => r = .bool (usF s ids) ∧ T = S := by
    refine wo_dcall Tryz.func55 rfl (by decide) rfl 43 rfl (fun a hal ha => ?_)
    have h0 : a[0]? = some (.loc k 0 0) := ha 0 (by simp)
    have h1 : a[1]? = some (di) := ha 1 (by simp)
    clear ha
    rcases hdi with ⟨rfl, rfl⟩ | ⟨x, rfl⟩
    · simp (maxSteps := 1000000) (disch := omega) only [push_cast, ↓wc_seq, ↓wc_block, ↓wc_region, ↓wr_cons, ↓wr_nil, ↓wc_wl, wo_some, opQ_eq, seqQ_normal, Nat.reduceAdd, Nat.reduceMul, ↓reduceIte, planIds, List.contains_cons, List.contains_nil, Nat.reduceBEq, Nat.zero_add, planIds, List.contains_cons, List.contains_nil, Nat.reduceBEq, Nat.reduceMul, Nat.reduceAdd, ↓reduceIte]
      refine wl_loop (fun i a T => i = 0 ∧ T = S ∧ a.length = 43 ∧ a[1]? = some (.nils) ∧ a[5]? = some (.int .i64 0)) 0 ?_ (by omega) ?_
      · simp (maxSteps := 1000000) (disch := omega) only [push_cast, Nat.reduceLT, Nat.reduceEqDiff, ↓reduceIte, setC, List.length_set, eq_self, ↓reduceIte, hal, h1]
      clear hal h0 h1 a
      rintro i a T _ ⟨rfl, rfl, hal, h1, h5⟩
      simp (maxSteps := 1000000) (disch := omega) only [push_cast, ↓wc_seq, ↓wc_condL, ↓wc_region, ↓wr_cons, ↓wr_nil, ↓wc_exit, ↓wc_ret, wo_some, opQ_eq, seqQ_normal, seqQ_exit, blockQ_exit, iterQ_exit, retQ_ret, pickC_false, Nat.reduceAdd, Nat.reduceMul, Nat.reduceLT, Nat.reduceEqDiff, ↓reduceIte, planIds, List.contains_cons, List.contains_nil, Nat.reduceBEq, setC, List.length_set, eq_self, Nat.zero_add, gt_iff_lt, ne_eq, not_true_eq_false, planIds, List.contains_cons, List.contains_nil, Nat.reduceBEq, Nat.reduceMul, Nat.reduceAdd, ↓reduceIte, hal, h1, h5, Int.lt_irrefl, usF, Tryz.f55]
    simp (maxSteps := 1000000) (disch := omega) only [push_cast, ↓wc_seq, ↓wc_block, ↓wc_region, ↓wr_cons, ↓wr_nil, ↓wc_wl, wo_some, opQ_eq, seqQ_normal, Nat.reduceAdd, Nat.reduceMul, ↓reduceIte, planIds, List.contains_cons, List.contains_nil, Nat.reduceBEq, Nat.zero_add, planIds, List.contains_cons, List.contains_nil, Nat.reduceBEq, Nat.reduceMul, Nat.reduceAdd, ↓reduceIte]
    refine wl_loop (fun i a T => T = S ∧ a.length = 43 ∧ a[0]? = some (.loc k 0 0) ∧ a[1]? = some (.sl 4 (ids.map Lid.enc) x) ∧ a[5]? = some (.int .i64 i) ∧ (ids.take i).Nodup ∧ ∀ j id, j < i → ids[j]? = some id → (s.get id).isSome = true) ids.length ?_ (by omega) ?_
    · simp (maxSteps := 1000000) (disch := omega) only [push_cast, Nat.reduceLT, Nat.reduceEqDiff, ↓reduceIte, setC, List.length_set, reduceCtorEq, eq_self, ↓reduceIte, hal, h0, h1, Int.natCast_zero, List.take_zero, List.nodup_nil]
      exact fun j id hj => by omega
    clear hal h0 h1 a
    rintro i a T hi ⟨rfl, hal, h0, h1, h5, hnd, hsome⟩
    rcases Nat.lt_or_eq_of_le hi with hlt | rfl
    case inr =>
      rw [List.take_length] at hnd
      have hall : (ids.all fun id => (s.get id).isSome) = true := List.all_eq_true.2 fun id hid => by
        obtain ⟨j, hj⟩ := List.mem_iff_getElem?.1 hid
        exact hsome j id (lt_of_get hj) hj
      have hus : usF s ids = decide ((0 : Int) < ids.length) := by
        unfold usF
        rw [hall, decide_eq_true hnd, Bool.and_true, Bool.and_true]
        cases ids <;> simp
      rw [hus]
      simp (maxSteps := 1000000) (disch := omega) only [push_cast, ↓wc_seq, ↓wc_condL, ↓wc_region, ↓wr_cons, ↓wr_nil, ↓wc_exit, ↓wc_ret, wo_some, opQ_eq, seqQ_normal, seqQ_exit, blockQ_exit, iterQ_exit, retQ_ret, pickC_false, Nat.reduceAdd, Nat.reduceMul, Nat.reduceLT, Nat.reduceEqDiff, ↓reduceIte, planIds, List.contains_cons, List.contains_nil, Nat.reduceBEq, setC, List.length_set, eq_self, Nat.zero_add, gt_iff_lt, planIds, List.contains_cons, List.contains_nil, Nat.reduceBEq, Nat.reduceMul, Nat.reduceAdd, ↓reduceIte, hal, h1, h5, Int.lt_irrefl, List.length_map, gt_iff_lt, Tryz.f55]
    have hltc : (i : Int) < ids.length := by omega
    obtain ⟨id, hid⟩ : ∃ id, ids[i]? = some id := ⟨ids[i], by simp⟩
    have ce := rEquip_c (n := q) (id := id) (by omega) h hrl
    rcases hg : s.get id with _ | y
    · have hus : usF s ids = false := by
        unfold usF
        rw [all_false (p := fun id => (s.get id).isSome) hid (by rw [hg]; rfl), Bool.and_false]
      rw [hus]
      have heq : s.equip id = none := by unfold Stk.equip; rw [hg]; rfl
      rw [heq] at ce
      simp only [Lid.enc, equipD] at ce
      simp (maxSteps := 1000000) (disch := omega) only [push_cast, ↓wc_seq, ↓wc_block, ↓wc_condL, ↓wc_region, ↓wr_cons, ↓wr_nil, ↓wo_callf, ↓wc_ret, ↓wc_skip, wo_some, opQ_eq, seqQ_normal, seqQ_ret, blockQ_ret, iterQ_ret, retQ_ret, pickC_true, Nat.reduceAdd, Nat.reduceMul, Nat.reduceLT, Nat.reduceLeDiff, Nat.reduceEqDiff, ↓reduceIte, planIds, hasExt, cntFs, idxFs, clnFs, ovlFs, List.contains_cons, List.contains_nil, List.any_nil, Nat.reduceBEq, setC, List.length_set, reduceCtorEq, eq_self, Int.natCast_nonneg, Int.toNat_natCast, Nat.zero_add, planIds, hasExt, cntFs, idxFs, clnFs, ovlFs, List.contains_cons, List.contains_nil, List.any_nil, Nat.reduceBEq, Nat.reduceMul, Nat.reduceAdd, ↓reduceIte, hal, h0, h1, h5, hltc, hid, ce, dUn, List.length_map, List.getElem?_map, Lid.enc, Tryz.f55]
    have heq : s.equip id = some y.cfg.equip := by unfold Stk.equip; rw [hg]; rfl
    rw [heq] at ce
    simp only [Lid.enc, equipD] at ce
    simp (maxSteps := 1000000) (disch := omega) only [push_cast, ↓wc_seq, ↓wc_block, ↓wc_condL, ↓wc_region, ↓wr_cons, ↓wr_nil, ↓wo_callf, ↓wc_skip, ↓wc_wl, wo_some, opQ_eq, seqQ_normal, pickC_true, pickC_false, Nat.reduceAdd, Nat.reduceMul, Nat.reduceLT, Nat.reduceLeDiff, Nat.reduceEqDiff, ↓reduceIte, planIds, hasExt, cntFs, idxFs, clnFs, ovlFs, List.contains_cons, List.contains_nil, List.any_nil, Nat.reduceBEq, setC, List.length_set, reduceCtorEq, eq_self, Int.natCast_nonneg, Int.toNat_natCast, Nat.zero_add, planIds, hasExt, cntFs, idxFs, clnFs, ovlFs, List.contains_cons, List.contains_nil, List.any_nil, Nat.reduceBEq, Nat.reduceMul, Nat.reduceAdd, ↓reduceIte, hal, h0, h1, h5, hltc, hid, ce, dUn, List.length_map, List.getElem?_map, Lid.enc]
    refine wl_loop (fun j a U => U = T ∧ a.length = 43 ∧ a[0]? = some (.loc k 0 0) ∧ a[1]? = some (.sl 4 (ids.map Lid.enc) x) ∧ a[5]? = some (.int .i64 i) ∧ a[8]? = some (.int .i64 j) ∧ ∀ k, k < j → ids[k]? ≠ some id) i ?_ (by omega) ?_
    · simp (maxSteps := 1000000) (disch := omega) only [push_cast, Nat.reduceLT, Nat.reduceEqDiff, ↓reduceIte, setC, List.length_set, reduceCtorEq, eq_self, ne_eq, ↓reduceIte, hal, h0, h1, h5, Int.natCast_zero]
      exact fun k hk => by omega
    clear hal h0 h1 h5 a
    rintro j a U hj ⟨rfl, hal, h0, h1, h5, h8, hne⟩
    rcases Nat.lt_or_eq_of_le hj with hlj | rfl
    case inr =>
      simp (maxSteps := 1000000) (disch := omega) only [push_cast, ↓wc_seq, ↓wc_condL, ↓wc_region, ↓wr_cons, ↓wr_nil, ↓wc_exit, wo_some, opQ_eq, seqQ_normal, seqQ_exit, blockQ_normal, blockQ_exit, iterQ_normal, iterQ_exit, pickC_false, Nat.reduceAdd, Nat.reduceMul, Nat.reduceLT, Nat.reduceEqDiff, ↓reduceIte, planIds, List.contains_cons, List.contains_nil, Nat.reduceBEq, setC, List.length_set, reduceCtorEq, eq_self, Nat.zero_add, ne_eq, planIds, List.contains_cons, List.contains_nil, Nat.reduceBEq, Nat.reduceMul, Nat.reduceAdd, ↓reduceIte, hal, h0, h1, h5, h8, Int.lt_irrefl, hlt, wrap_ok, Int.natCast_add, Int.natCast_one]
      refine ⟨take_nodup hnd hid hne, fun j' id' hj' h1 => ?_⟩
      by_cases ej : j' = j
      · subst ej
        rw [hid] at h1
        cases h1
        rw [hg]; rfl
      · exact hsome j' id' (by omega) h1
    have hljc : (j : Int) < i := by omega
    obtain ⟨id', hq'⟩ : ∃ id', ids[j]? = some id' := ⟨ids[j]'(by omega), by simp⟩
    have he := eq_lid id' id
    have hpl := plain_lid
    by_cases e : id' = id
    · subst e
      have hus : usF s ids = false := by
        unfold usF
        rw [decide_eq_false (dup_of hlj hq' hid), Bool.and_false, Bool.false_and]
      rw [hus]
      rw [decide_eq_true rfl] at he
      simp only [Lid.enc] at he
      simp (maxSteps := 1000000) (disch := omega) only [push_cast, ↓wc_seq, ↓wc_block, ↓wc_condL, ↓wc_region, ↓wr_cons, ↓wr_nil, ↓wc_ret, ↓wc_skip, wo_some, opQ_eq, seqQ_normal, seqQ_ret, blockQ_ret, iterQ_ret, retQ_ret, pickC_true, Nat.reduceAdd, Nat.reduceMul, Nat.reduceLT, Nat.reduceLeDiff, Nat.reduceEqDiff, ↓reduceIte, planIds, List.contains_cons, List.contains_nil, Nat.reduceBEq, setC, List.length_set, eq_self, Int.natCast_nonneg, Int.toNat_natCast, Nat.zero_add, ne_eq, planIds, List.contains_cons, List.contains_nil, Nat.reduceBEq, Nat.reduceMul, Nat.reduceAdd, ↓reduceIte, hal, h1, h5, h8, hljc, hid, hq', he, hpl, List.getElem?_map, Lid.enc, Tryz.f55]
    · rw [decide_eq_false e] at he
      simp only [Lid.enc] at he
      simp (maxSteps := 1000000) (disch := omega) only [push_cast, ↓wc_seq, ↓wc_block, ↓wc_condL, ↓wc_region, ↓wr_cons, ↓wr_nil, ↓wc_skip, wo_some, opQ_eq, seqQ_normal, blockQ_normal, iterQ_normal, pickC_true, pickC_false, Nat.reduceAdd, Nat.reduceMul, Nat.reduceLT, Nat.reduceLeDiff, Nat.reduceEqDiff, ↓reduceIte, planIds, List.contains_cons, List.contains_nil, Nat.reduceBEq, setC, List.length_set, reduceCtorEq, eq_self, Int.natCast_nonneg, Int.toNat_natCast, Nat.zero_add, ne_eq, planIds, List.contains_cons, List.contains_nil, Nat.reduceBEq, Nat.reduceMul, Nat.reduceAdd, ↓reduceIte, hal, h0, h1, h5, h8, hlj, hljc, hid, hq', he, hpl, List.getElem?_map, Lid.enc, wrap_ok, Int.natCast_add, Int.natCast_one]
      intro k' hk'
      by_cases ek : k' = j
      · subst ek
        rw [hq']
        intro e'
        exact e (Option.some.inj e')
      · exact hne k' (by omega)
  obtain ⟨_, U, ho, rfl, rfl⟩ := this
  exact callD_obs rfl (by simp [pureL_cons, D.pure]) ho rfl
set_option maxHeartbeats 8000000 in
set_option maxRecDepth 100000 in
theorem rOOpen_c (hn : 210 ≤ n) (h : RefAt S lab o s k rd rows) (ok : StkOk 9999 s) (hrl : rows.length ≤ 100) (hls : s.l.length ≤ 100) (hl : ids.length ≤ 20) {di : D} (hdi : FLs 4 Lid.enc di ids) (cl : ByteArray) (st : Bool) :
    callD E (dcall E n) st S 19 [.loc k 0 0, di, .str cl] = some (.int .i64 (openF s ids cl), S) := by
  obtain ⟨q, rfl⟩ : ∃ q, n = q + 1 := ⟨n - 1, by omega⟩
  have cu := rusable_c (n := q) (by omega) h hrl hl hdi
  have clf := fun id => rLeft_c (n := q) (id := id) (by omega) h ok hrl hls cl
  have : WO (dcall E (q + 1) 19 [.loc k 0 0, di, .str cl] S) fun r T => r = .int .i64 (openF s ids cl) ∧ T = S := by
    refine wo_dcall Tryz.func19 rfl (by decide) rfl 35 rfl (fun a hal ha => ?_)
    have h0 : a[0]? = some (.loc k 0 0) := ha 0 (by simp)
    have h1 : a[1]? = some (di) := ha 1 (by simp)
    have h2 : a[2]? = some (.str cl) := ha 2 (by simp)
    clear ha
    unfold openF
    cases hu : usF s ids
    · rw [hu] at cu
      rw [if_neg (by simp)]
      simp (maxSteps := 1000000) (disch := omega) only [push_cast, ↓wc_seq, ↓wc_condL, ↓wc_region, ↓wr_cons, ↓wr_nil, ↓wo_callf, ↓wc_ret, wo_some, opQ_eq, seqQ_normal, seqQ_ret, retQ_ret, pickC_true, Nat.reduceAdd, Nat.reduceMul, Nat.reduceLT, Nat.reduceEqDiff, ↓reduceIte, planIds, hasExt, cntFs, idxFs, clnFs, ovlFs, List.contains_cons, List.contains_nil, List.any_nil, Nat.reduceBEq, setC, List.length_set, reduceCtorEq, eq_self, Nat.zero_add, planIds, hasExt, cntFs, idxFs, clnFs, ovlFs, List.contains_cons, List.contains_nil, List.any_nil, Nat.reduceBEq, Nat.reduceMul, Nat.reduceAdd, ↓reduceIte, hal, h0, h1, cu, dUn, Tryz.f19]
    rw [hu] at cu
    rw [if_pos rfl]
    have hne : ids ≠ [] := by
      rintro rfl
      simp [usF] at hu
    rcases ids with _ | ⟨id0, rest⟩
    · exact absurd rfl hne
    obtain ⟨x, rfl⟩ : ∃ x, di = .sl 4 ((id0 :: rest).map Lid.enc) x := by
      rcases hdi with ⟨-, e⟩ | h
      · cases e
      · exact h
    have c0 := clf id0
    have hrl : rest.length ≤ 19 := by simpa using hl
    dsimp only
    simp only [Lid.enc, List.map_cons] at c0 h1 cu
    change a[1]? = some (.sl 4 ([.str id0.c, .int .i64 id0.n, .int .i64 id0.d, .str id0.f] :: rest.map Lid.enc) x) at h1
    simp (maxSteps := 1000000) (disch := omega) only [push_cast, ↓wc_seq, ↓wc_block, ↓wc_condL, ↓wc_region, ↓wr_cons, ↓wr_nil, ↓wo_callf, ↓wc_skip, ↓wc_wl, wo_some, opQ_eq, seqQ_normal, pickC_false, Nat.reduceAdd, Nat.reduceMul, Nat.reduceLT, Nat.reduceLeDiff, Nat.reduceEqDiff, Int.reduceLE, ↓reduceIte, planIds, hasExt, cntFs, idxFs, clnFs, ovlFs, List.contains_cons, List.contains_nil, List.any_nil, Nat.reduceBEq, setC, List.length_set, reduceCtorEq, eq_self, Nat.zero_add, planIds, hasExt, cntFs, idxFs, clnFs, ovlFs, List.contains_cons, List.contains_nil, List.any_nil, Nat.reduceBEq, Nat.reduceMul, Nat.reduceAdd, ↓reduceIte, hal, h0, h1, h2, cu, c0, dUn]
    have hmin : ∀ (m : Int) (j : Nat) (id : Lid), rest[j]? = some id → minF s cl m (rest.drop j) = minF s cl (min m (s.left id cl)) (rest.drop (j + 1)) := fun m j id hj => by rw [drop_at hj, minF]
    refine wl_loop (fun i a T => a.length = 35 ∧ a[0]? = some (.loc k 0 0) ∧ a[1]? = some (.sl 4 ([.str id0.c, .int .i64 id0.n, .int .i64 id0.d, .str id0.f] :: rest.map Lid.enc) x) ∧ a[2]? = some (.str cl) ∧ a[8]? = some (.int .i64 (i + 1)) ∧ T = S ∧ ∃ w, a[7]? = some (.int .i64 w) ∧ minF s cl (s.left id0 cl) rest = minF s cl w (rest.drop i)) rest.length ?_ (by omega) ?_
    · simp (maxSteps := 1000000) (disch := omega) only [push_cast, Nat.reduceLT, Nat.reduceEqDiff, ↓reduceIte, setC, List.length_set, reduceCtorEq, eq_self, D.int.injEq, Option.some.injEq, ↓reduceIte, hal, h0, h1, h2, Int.natCast_zero, List.drop_zero, Int.zero_add]
      exact ⟨_, rfl, rfl⟩
    clear hal h0 h1 h2 a
    rintro i a T hi ⟨hal, h0, h1, h2, h8, rfl, w, h7, hw⟩
    have hlen : ((([D.str id0.c, .int .i64 id0.n, .int .i64 id0.d, .str id0.f] :: rest.map Lid.enc).length : Nat) : Int) = rest.length + 1 := by simp
    rcases Nat.lt_or_eq_of_le hi with hlt | rfl
    case inr =>
      rw [hw, List.drop_length]
      simp (maxSteps := 1000000) (disch := omega) only [push_cast, ↓wc_seq, ↓wc_condL, ↓wc_region, ↓wr_cons, ↓wr_nil, ↓wc_exit, ↓wc_ret, wo_some, opQ_eq, seqQ_normal, seqQ_exit, blockQ_exit, iterQ_exit, retQ_ret, pickC_false, Nat.reduceAdd, Nat.reduceMul, Nat.reduceLT, Nat.reduceEqDiff, ↓reduceIte, planIds, List.contains_cons, List.contains_nil, Nat.reduceBEq, setC, List.length_set, eq_self, Nat.zero_add, planIds, List.contains_cons, List.contains_nil, Nat.reduceBEq, Nat.reduceMul, Nat.reduceAdd, ↓reduceIte, hal, h1, h7, h8, Int.lt_irrefl, minF, List.length_map, Int.natCast_add, Int.natCast_one, Tryz.f19]
    obtain ⟨id, hid⟩ : ∃ id, rest[i]? = some id := ⟨rest[i], by simp⟩
    have hltc : (i : Int) + 1 < rest.length + 1 := by omega
    have hnn : (0 : Int) ≤ (i : Int) + 1 := by omega
    have htn : ((i : Int) + 1).toNat = i + 1 := by omega
    have cl' := clf id
    rw [hmin w i id hid] at hw
    simp only [Lid.enc] at cl'
    by_cases hlw : w ≤ s.left id cl
    · have hlw2 : ¬ s.left id cl < w := by omega
      rw [Int.min_eq_left hlw] at hw
      simp (maxSteps := 1000000) (disch := omega) only [push_cast, ↓wc_seq, ↓wc_block, ↓wc_condL, ↓wc_region, ↓wr_cons, ↓wr_nil, ↓wo_callf, ↓wc_skip, wo_some, opQ_eq, seqQ_normal, blockQ_normal, iterQ_normal, pickC_true, Nat.reduceAdd, Nat.reduceMul, Nat.reduceLT, Nat.reduceLeDiff, Nat.reduceEqDiff, ↓reduceIte, planIds, hasExt, cntFs, idxFs, clnFs, ovlFs, List.contains_cons, List.contains_nil, List.any_nil, Nat.reduceBEq, setC, List.length_set, reduceCtorEq, eq_self, D.int.injEq, Option.some.injEq, Nat.zero_add, planIds, hasExt, cntFs, idxFs, clnFs, ovlFs, List.contains_cons, List.contains_nil, List.any_nil, Nat.reduceBEq, Nat.reduceMul, Nat.reduceAdd, ↓reduceIte, hal, h0, h1, h2, h7, h8, hlt, hltc, hnn, htn, hid, cl', hlw2, List.length_map, List.getElem?_map, Lid.enc, wrap_ok, Int.natCast_add, Int.natCast_one]
      exact ⟨_, rfl, hw⟩
    · have hlw2 : s.left id cl < w := by omega
      rw [Int.min_eq_right (by omega)] at hw
      simp (maxSteps := 1000000) (disch := omega) only [push_cast, ↓wc_seq, ↓wc_block, ↓wc_condL, ↓wc_region, ↓wr_cons, ↓wr_nil, ↓wo_callf, ↓wc_skip, wo_some, opQ_eq, seqQ_normal, blockQ_normal, iterQ_normal, pickC_true, Nat.reduceAdd, Nat.reduceMul, Nat.reduceLT, Nat.reduceLeDiff, Nat.reduceEqDiff, ↓reduceIte, planIds, hasExt, cntFs, idxFs, clnFs, ovlFs, List.contains_cons, List.contains_nil, List.any_nil, Nat.reduceBEq, setC, List.length_set, reduceCtorEq, eq_self, D.int.injEq, Option.some.injEq, Nat.zero_add, planIds, hasExt, cntFs, idxFs, clnFs, ovlFs, List.contains_cons, List.contains_nil, List.any_nil, Nat.reduceBEq, Nat.reduceMul, Nat.reduceAdd, ↓reduceIte, hal, h0, h1, h2, h7, h8, hlt, hltc, hnn, htn, hid, cl', hlw2, List.length_map, List.getElem?_map, Lid.enc, wrap_ok, Int.natCast_add, Int.natCast_one]
      exact ⟨_, rfl, hw⟩
  obtain ⟨_, U, ho, rfl, rfl⟩ := this
  exact callD_obs rfl (by simp [pureL_cons, D.pure]) ho rfl

/-! ### Calls -/
theorem CfgZ.mono' {a b : Nat} {c : Cfg} (h : CfgZ a c) (hab : a ≤ b) : CfgZ b c :=
  ⟨⟨by have := h.eq.1; omega, h.eq.2⟩, fun y hy => ⟨by have := (h.nm y hy).1; omega, (h.nm y hy).2⟩, fun y hy z hz => ⟨by have := (h.cl y hy z hz).1; omega, (h.cl y hy z hz).2⟩⟩
theorem gen_of {f : FuncId} {args : List D} {Q : D → List Ob → Prop} (hn : 1 ≤ n) (hm : E.mode f = .gen) (h : WO (dcall E (n - 1 + 1) f args S) Q) : ∃ d T, (∀ st, callD E (dcall E n) st S f args = some (d, T)) ∧ Q d T := by
  obtain ⟨d, T, ho, hq⟩ := h
  rw [show n - 1 + 1 = n by omega] at ho
  exact ⟨d, T, fun st => (callD_gen hm).trans ho, hq⟩
set_option maxHeartbeats 8000000 in
set_option maxRecDepth 100000 in
theorem Say_d {a : Cal} {lx : Bool} (hn : 220 ≤ n) (h : RAt S lab o k s) (ok : StkOk 9999 s) (hll : s.legs.length ≤ 100) (hs : s.l.length ≤ 100) (ha : a.Ok) :
    WO (dcall E (n + 1) 35 [.loc k 0 0, .sl 2 (s.l.map Cfg.enc) lx, .agg a.enc] S) fun r T => r = .int .i64 (doF s a).1 ∧ ∃ lab', RAt T lab' o k (doF s a).2 ∧ Step o S lab T lab' := by
  have hf := h.1
  have hx : RAt (S ++ [.row 6 [a.enc]]) lab o k s := by
    obtain ⟨hf, rd, rows, h⟩ := h
    exact ⟨hf.push _, rd, rows, h.push _⟩
  have hst : Step o S lab (S ++ [.row 6 [a.enc]]) lab := Step.push hf _
  obtain ⟨kd, l, mo, eq, cl, w⟩ := a
  obtain ⟨ha1, ha2, ha3, ha4, ha5, ha6, ha7⟩ := id ha
  dsimp only at ha1 ha2 ha3 ha4 ha5 ha6 ha7
  have ci := Id_c (n := n) (k := l) (by omega) ha2
  have ce := equip_c (n := n) (k := eq) (l := s.l) (lx := lx) (by omega) ha4
  have ck := Class_c (n := n) (k := cl) (by omega) ha5
  obtain ⟨di, hdi, cd⟩ := ids_c (n := n) (by omega) ha
  have t7 : (kd : Int).tmod 7 = ((kd % 7 : Nat) : Int) := tmod_nat kd 7
  have hlen := idsF_len ⟨kd, l, mo, eq, cl, w⟩
  obtain ⟨r, hr⟩ : ∃ r, kd % 7 = r := ⟨_, rfl⟩
  have hr7 : r < 7 := by rw [← hr]; exact Nat.mod_lt _ (by decide)
  unfold doF
  dsimp only
  rw [hr] at t7 ⊢
  refine wo_dcall Tryz.func35 rfl (by decide) rfl 61 rfl (fun a hal ha => ?_)
  have h0 : a[0]? = some (.loc k 0 0) := ha 0 (by simp)
  have h1 : a[1]? = some (.sl 2 (s.l.map Cfg.enc) lx) := ha 1 (by simp)
  have h2 : a[2]? = some (.agg (Cal.enc ⟨kd, l, mo, eq, cl, w⟩)) := ha 2 (by simp)
  clear ha
  simp only [Cal.enc] at h2 cd hx hst
  rcases (by omega : r = 0 ∨ r = 1 ∨ r = 5 ∨ r = 6 ∨ (r = 2 ∨ r = 3 ∨ r = 4)) with rfl | rfl | rfl | rfl | hr
  · obtain ⟨d, T, c1, rfl, lab', c2, c3⟩ := gen_of (n := n) (by omega) rfl (rsOpen_d (n := n - 1) (id := idF l) (by omega) hx hll hs ok.cfgs (equipF s.l eq))
    simp (maxSteps := 1000000) (disch := omega) only [push_cast, ↓wc_seq, ↓wc_block, ↓wc_condL, ↓wc_region, ↓wr_cons, ↓wr_nil, ↓wo_callf, ↓wc_ret, wo_some, opQ_eq, seqQ_normal, seqQ_ret, blockQ_ret, retQ_ret, pickC_true, int_beq, Nat.reduceAdd, Nat.reduceMul, Nat.reduceLT, Nat.reduceEqDiff, Int.reduceEq, ↓reduceIte, planIds, hasExt, cntFs, idxFs, clnFs, ovlFs, List.contains_cons, List.contains_nil, List.any_nil, Nat.reduceBEq, setC, List.length_set, reduceCtorEq, eq_self, Nat.zero_add, Nat.add_zero, planIds, hasExt, cntFs, idxFs, clnFs, ovlFs, List.contains_cons, List.contains_nil, List.any_nil, Nat.reduceBEq, Nat.reduceMul, Nat.reduceAdd, ↓reduceIte, hal, h0, h1, h2, get_end, t7, ci, ce, c1, Int.natCast_zero, Tryz.f35]
    exact ⟨lab', c2, hst.trans c3⟩
  · obtain ⟨d, T, c1, rfl, lab', c2, c3⟩ := gen_of (n := n) (by omega) rfl (rClose_d (n := n - 1) (id := idF l) (by omega) hx ok.ids hll)
    simp (maxSteps := 1000000) (disch := omega) only [push_cast, ↓wc_seq, ↓wc_block, ↓wc_condL, ↓wc_region, ↓wr_cons, ↓wr_nil, ↓wo_callf, ↓wc_ret, wo_some, opQ_eq, seqQ_normal, seqQ_ret, blockQ_ret, retQ_ret, pickC_true, pickC_false, int_beq, Nat.reduceAdd, Nat.reduceMul, Nat.reduceLT, Nat.reduceEqDiff, Int.reduceEq, ↓reduceIte, planIds, hasExt, cntFs, idxFs, clnFs, ovlFs, List.contains_cons, List.contains_nil, List.any_nil, Nat.reduceBEq, setC, List.length_set, reduceCtorEq, eq_self, Nat.zero_add, Nat.add_zero, planIds, hasExt, cntFs, idxFs, clnFs, ovlFs, List.contains_cons, List.contains_nil, List.any_nil, Nat.reduceBEq, Nat.reduceMul, Nat.reduceAdd, ↓reduceIte, hal, h0, h2, get_end, t7, ci, c1, Int.natCast_one, Tryz.f35]
    exact ⟨lab', c2, hst.trans c3⟩
  · obtain ⟨d, T, c1, rfl, lab', c2, c3⟩ := gen_of (n := n) (by omega) rfl (rCancel_d (n := n - 1) (by omega) hx ok hll hs (by omega) hdi (clsN cl) w)
    simp (maxSteps := 1000000) (disch := omega) only [push_cast, ↓wc_seq, ↓wc_block, ↓wc_condL, ↓wc_region, ↓wr_cons, ↓wr_nil, ↓wo_callf, ↓wc_ret, wo_some, opQ_eq, seqQ_normal, seqQ_ret, blockQ_ret, retQ_ret, pickC_true, pickC_false, int_beq, Nat.reduceAdd, Nat.reduceMul, Nat.reduceLT, Nat.reduceLeDiff, Nat.reduceEqDiff, Int.reduceEq, ↓reduceIte, planIds, hasExt, cntFs, idxFs, clnFs, ovlFs, List.contains_cons, List.contains_nil, List.any_nil, Nat.reduceBEq, setC, List.length_set, reduceCtorEq, eq_self, Nat.zero_add, Nat.add_zero, planIds, hasExt, cntFs, idxFs, clnFs, ovlFs, List.contains_cons, List.contains_nil, List.any_nil, Nat.reduceBEq, Nat.reduceMul, Nat.reduceAdd, ↓reduceIte, hal, h0, h2, get_end, t7, cd, ck, c1, wrap_ok, Int.cast_ofNat_Int, Tryz.f35]
    exact ⟨lab', c2, hst.trans c3⟩
  · obtain ⟨d, T, c1, rfl, lab', c2, c3⟩ := gen_of (n := n) (by omega) rfl (rsResize_d (n := n - 1) (id := idF l) (by omega) hx ok hll hs (equipF s.l eq))
    simp (maxSteps := 1000000) (disch := omega) only [push_cast, ↓wc_seq, ↓wc_block, ↓wc_condL, ↓wc_region, ↓wr_cons, ↓wr_nil, ↓wo_callf, ↓wc_ret, wo_some, opQ_eq, seqQ_normal, seqQ_ret, blockQ_ret, retQ_ret, pickC_true, pickC_false, int_beq, Nat.reduceAdd, Nat.reduceMul, Nat.reduceLT, Nat.reduceEqDiff, Int.reduceEq, ↓reduceIte, planIds, hasExt, cntFs, idxFs, clnFs, ovlFs, List.contains_cons, List.contains_nil, List.any_nil, Nat.reduceBEq, setC, List.length_set, reduceCtorEq, eq_self, Nat.zero_add, Nat.add_zero, planIds, hasExt, cntFs, idxFs, clnFs, ovlFs, List.contains_cons, List.contains_nil, List.any_nil, Nat.reduceBEq, Nat.reduceMul, Nat.reduceAdd, ↓reduceIte, hal, h0, h1, h2, get_end, t7, ci, ce, c1, Int.cast_ofNat_Int, Tryz.f35]
    exact ⟨lab', c2, hst.trans c3⟩
  · obtain ⟨d, T, c1, rfl, lab', c2, c3⟩ := gen_of (n := n) (by omega) rfl (rSell_d (n := n - 1) (by omega) hx ok hll hs (by omega) hdi (clsN cl) w)
    rcases hr with rfl | rfl | rfl
    · simp (maxSteps := 1000000) (disch := omega) only [push_cast, ↓wc_seq, ↓wc_block, ↓wc_condL, ↓wc_region, ↓wr_cons, ↓wr_nil, ↓wo_callf, ↓wc_ret, ↓wc_skip, wo_some, opQ_eq, seqQ_normal, blockQ_normal, retQ_ret, pickC_false, int_beq, Nat.reduceAdd, Nat.reduceMul, Nat.reduceLT, Nat.reduceLeDiff, Nat.reduceEqDiff, Int.reduceEq, ↓reduceIte, planIds, hasExt, cntFs, idxFs, clnFs, ovlFs, List.contains_cons, List.contains_nil, List.any_nil, Nat.reduceBEq, setC, List.length_set, reduceCtorEq, eq_self, Nat.zero_add, Nat.add_zero, planIds, hasExt, cntFs, idxFs, clnFs, ovlFs, List.contains_cons, List.contains_nil, List.any_nil, Nat.reduceBEq, Nat.reduceMul, Nat.reduceAdd, ↓reduceIte, hal, h0, h2, get_end, t7, cd, ck, c1, wrap_ok, Int.cast_ofNat_Int, Tryz.f35]
      exact ⟨lab', c2, hst.trans c3⟩
    · simp (maxSteps := 1000000) (disch := omega) only [push_cast, ↓wc_seq, ↓wc_block, ↓wc_condL, ↓wc_region, ↓wr_cons, ↓wr_nil, ↓wo_callf, ↓wc_ret, ↓wc_skip, wo_some, opQ_eq, seqQ_normal, blockQ_normal, retQ_ret, pickC_false, int_beq, Nat.reduceAdd, Nat.reduceMul, Nat.reduceLT, Nat.reduceLeDiff, Nat.reduceEqDiff, Int.reduceEq, ↓reduceIte, planIds, hasExt, cntFs, idxFs, clnFs, ovlFs, List.contains_cons, List.contains_nil, List.any_nil, Nat.reduceBEq, setC, List.length_set, reduceCtorEq, eq_self, Nat.zero_add, Nat.add_zero, planIds, hasExt, cntFs, idxFs, clnFs, ovlFs, List.contains_cons, List.contains_nil, List.any_nil, Nat.reduceBEq, Nat.reduceMul, Nat.reduceAdd, ↓reduceIte, hal, h0, h2, get_end, t7, cd, ck, c1, wrap_ok, Int.cast_ofNat_Int, Tryz.f35]
      exact ⟨lab', c2, hst.trans c3⟩
    · simp (maxSteps := 1000000) (disch := omega) only [push_cast, ↓wc_seq, ↓wc_block, ↓wc_condL, ↓wc_region, ↓wr_cons, ↓wr_nil, ↓wo_callf, ↓wc_ret, ↓wc_skip, wo_some, opQ_eq, seqQ_normal, blockQ_normal, retQ_ret, pickC_false, int_beq, Nat.reduceAdd, Nat.reduceMul, Nat.reduceLT, Nat.reduceLeDiff, Nat.reduceEqDiff, Int.reduceEq, ↓reduceIte, planIds, hasExt, cntFs, idxFs, clnFs, ovlFs, List.contains_cons, List.contains_nil, List.any_nil, Nat.reduceBEq, setC, List.length_set, reduceCtorEq, eq_self, Nat.zero_add, Nat.add_zero, planIds, hasExt, cntFs, idxFs, clnFs, ovlFs, List.contains_cons, List.contains_nil, List.any_nil, Nat.reduceBEq, Nat.reduceMul, Nat.reduceAdd, ↓reduceIte, hal, h0, h2, get_end, t7, cd, ck, c1, wrap_ok, Int.cast_ofNat_Int, Tryz.f35]
      exact ⟨lab', c2, hst.trans c3⟩
theorem Say_c {a : Cal} {lx : Bool} (hn : 230 ≤ n) (h : RAt S lab o k s) (ok : StkOk 9999 s) (hll : s.legs.length ≤ 100) (hs : s.l.length ≤ 100) (ha : a.Ok) : ∃ T lab', (∀ st, callD E (dcall E n) st S 35 [.loc k 0 0, .sl 2 (s.l.map Cfg.enc) lx, .agg a.enc] = some (.int .i64 (doF s a).1, T)) ∧ RAt T lab' o k (doF s a).2 ∧ Step o S lab T lab' := by
  obtain ⟨d, T, c1, rfl, lab', c2, c3⟩ := gen_of (n := n) (by omega) rfl (Say_d (n := n - 1) (lx := lx) (by omega) h ok hll hs ha)
  exact ⟨T, lab', c1, c2, c3⟩
theorem doF_legs (s : Stk) (a : Cal) : (doF s a).2.legs.length ≤ s.legs.length + 1 := by
  unfold doF
  split
  · unfold Stk.open
    split
    · simp
    · split <;> simp
  · unfold Stk.close
    split
    · simp
    · split
      · simp
      · simp [updL_len]
  · unfold Stk.cancel
    split
    · simp
    · split
      · simp
      · simp [addIds_len]
  · unfold Stk.resize
    split
    · simp [updL_len]
    · simp
  · unfold Stk.sell
    split
    · simp
    · split
      · simp
      · simp [addIds_len]
theorem playF_legs (s : Stk) (acts : List Cal) : (playF s acts).legs.length ≤ s.legs.length + acts.length := by
  unfold playF
  induction acts generalizing s with
  | nil => simp
  | cons a acts ih =>
    rw [List.foldl_cons, List.length_cons]
    have h1 := ih (doF s a).2
    have h2 := doF_legs s a
    omega
theorem RAt.other {S T : List Ob} {lab lab' : Lab} {o o' k : Nat} {s : Stk} (h : RAt S lab o k s) (g : Step o' S lab T lab') (ho : o ≠ o') : RAt T lab' o k s := by
  obtain ⟨-, rd, rows, h⟩ := h
  exact ⟨g.fresh, rd, rows, h.keep (g.keepO ho)⟩
set_option maxHeartbeats 8000000 in
set_option maxRecDepth 100000 in
theorem built_d {l : List Cfg} {acts : List Cal} {lx ax : Bool} (hn : 350 ≤ n) (hz : ∀ c ∈ l, CfgZ (n - 3) c) (hl8 : l.length ≤ 8) (hsm : ∀ c ∈ l, Sm c) (hcl : cfgL l l.length = []) (hl : acts.length ≤ 60) (ha : ∀ a ∈ acts, a.Ok) :
    WO (dcall E (n + 1) 15 [.sl 2 (l.map Cfg.enc) lx, .sl 6 (acts.map Cal.enc) ax] []) fun d T => ∃ k r lab, d = .tup [.loc k 0 0, .loc r 0 0, .bool true] ∧ SAt T lab 1 k (playF ⟨l, lx, []⟩ acts) ∧ RAt T lab 2 r (playF ⟨l, lx, []⟩ acts) ∧ StkOk 7620 (playF ⟨l, lx, []⟩ acts) := by
  have hg := good_of (n := n - 2) (by omega) hcl (fun c hc => hz c hc)
  obtain ⟨T0, lab0, k, cp, hs0, hok0, -⟩ := Played_c (S := []) (lab := fun _ => []) (o := 1) (n := n) (lx := lx) (ax := ax) (by omega) hg (fun _ _ => rfl) hl ha
  obtain ⟨T1, lab1, r, cn, hr1, st1⟩ := rNew_c (n := n) (o := 2) (lx := lx) (by omega) (by omega) hsm hz hcl hs0.1
  have hs1 := hs0.other st1 (by omega)
  refine wo_dcall Tryz.func15 rfl (by decide) rfl 39 rfl (fun a hal ha => ?_)
  have h0 : a[0]? = some (.sl 2 (l.map Cfg.enc) lx) := ha 0 (by simp)
  have h1 : a[1]? = some (.sl 6 (acts.map Cal.enc) ax) := ha 1 (by simp)
  clear ha
  simp (maxSteps := 1000000) (disch := omega) only [push_cast, ↓wc_seq, ↓wc_block, ↓wc_region, ↓wr_cons, ↓wr_nil, ↓wo_callf, ↓wc_wl, wo_some, opQ_eq, seqQ_normal, Nat.reduceAdd, Nat.reduceMul, Nat.reduceLT, Nat.reduceEqDiff, ↓reduceIte, planIds, hasExt, cntFs, idxFs, clnFs, ovlFs, List.contains_cons, List.contains_nil, List.any_nil, Nat.reduceBEq, setC, List.length_set, reduceCtorEq, eq_self, Nat.zero_add, planIds, hasExt, cntFs, idxFs, clnFs, ovlFs, List.contains_cons, List.contains_nil, List.any_nil, Nat.reduceBEq, Nat.reduceMul, Nat.reduceAdd, ↓reduceIte, hal, h0, h1, cp, cn]
  refine wl_loop (fun i a T => a.length = 39 ∧ a[0]? = some (.sl 2 (l.map Cfg.enc) lx) ∧ a[1]? = some (.sl 6 (acts.map Cal.enc) ax) ∧ a[7]? = some (.loc k 0 0) ∧ a[8]? = some (.bool true) ∧ a[9]? = some (.loc r 0 0) ∧ a[11]? = some (.int .i64 i) ∧ ∃ lab', SAt T lab' 1 k (playF ⟨l, lx, []⟩ acts) ∧ RAt T lab' 2 r (playF ⟨l, lx, []⟩ (acts.take i)) ∧ StkOk (127 * i) (playF ⟨l, lx, []⟩ (acts.take i))) acts.length ?_ (by omega) ?_
  · simp (maxSteps := 1000000) (disch := omega) only [push_cast, Nat.reduceLT, Nat.reduceEqDiff, Int.reduceMul, ↓reduceIte, setC, List.length_set, reduceCtorEq, eq_self, ↓reduceIte, hal, h0, h1, Int.natCast_zero, List.take_zero]
    exact ⟨lab1, hs1, hr1, ⟨hg.ok, List.nodup_nil, fun p hp => by cases hp⟩⟩
  clear hal h0 h1 a
  rintro i a T hi ⟨hal, h0, h1, h7, h8, h9, h11, lab2, hs, hr, hok⟩
  rcases Nat.lt_or_eq_of_le hi with hlt | rfl
  case inr =>
    rw [List.take_length] at hr
    simp (maxSteps := 1000000) (disch := omega) only [push_cast, ↓wc_seq, ↓wc_condL, ↓wc_region, ↓wr_cons, ↓wr_nil, ↓wc_exit, ↓wc_ret, wo_some, opQ_eq, seqQ_normal, seqQ_exit, blockQ_exit, iterQ_exit, retQ_ret, pickC_false, Nat.reduceAdd, Nat.reduceMul, Nat.reduceLT, Nat.reduceEqDiff, ↓reduceIte, planIds, List.contains_cons, List.contains_nil, Nat.reduceBEq, setC, List.length_set, eq_self, Nat.zero_add, planIds, List.contains_cons, List.contains_nil, Nat.reduceBEq, Nat.reduceMul, Nat.reduceAdd, ↓reduceIte, hal, h1, h7, h8, h9, h11, Int.lt_irrefl, List.length_map, Tryz.f15]
    exact ⟨k, r, lab2, rfl, hs, hr, hok0⟩
  have hltc : (i : Int) < acts.length := by omega
  obtain ⟨c, hc⟩ : ∃ c, acts[i]? = some c := ⟨acts[i], by simp⟩
  have hco := ha c (List.mem_of_getElem? hc)
  obtain ⟨pl, px⟩ := playF_l ⟨l, lx, []⟩ (acts.take i)
  have hll : (playF ⟨l, lx, []⟩ (acts.take i)).l.length ≤ 100 := by rw [pl]; dsimp only; omega
  have hlg : (playF ⟨l, lx, []⟩ (acts.take i)).legs.length ≤ 100 := by
    have := playF_legs ⟨l, lx, []⟩ (acts.take i)
    rw [List.length_take] at this
    simp at this
    omega
  obtain ⟨T', lab3, cd, h1r, st2⟩ := Say_c (n := n) (lx := lx) (by omega) hr (hok.mono (by omega)) hlg hll hco
  have hok2 := doF_ok hok (by omega) (by omega) hco
  rw [← playF_succ hc] at h1r hok2
  rw [pl] at cd
  dsimp only at cd
  simp only [Cal.enc] at cd
  simp (maxSteps := 1000000) (disch := omega) only [push_cast, ↓wc_seq, ↓wc_block, ↓wc_condL, ↓wc_region, ↓wr_cons, ↓wr_nil, ↓wo_callf, ↓wc_skip, wo_some, opQ_eq, seqQ_normal, blockQ_normal, iterQ_normal, pickC_true, Nat.reduceAdd, Nat.reduceMul, Nat.reduceLT, Nat.reduceLeDiff, Nat.reduceEqDiff, ↓reduceIte, planIds, hasExt, cntFs, idxFs, clnFs, ovlFs, List.contains_cons, List.contains_nil, List.any_nil, Nat.reduceBEq, setC, List.length_set, reduceCtorEq, eq_self, Int.natCast_nonneg, Int.toNat_natCast, Nat.zero_add, planIds, hasExt, cntFs, idxFs, clnFs, ovlFs, List.contains_cons, List.contains_nil, List.any_nil, Nat.reduceBEq, Nat.reduceMul, Nat.reduceAdd, ↓reduceIte, hal, h0, h1, h7, h8, h9, h11, hlt, hltc, hc, cd, List.length_map, List.getElem?_map, Cal.enc, wrap_ok, Int.natCast_add, Int.natCast_one]
  exact ⟨lab3, hs.other st2 (by omega), h1r, hok2.mono (by omega)⟩
end
end Go.Proofs.YtlamgjbngblefaaGreatDoor.Dm
