/-
  The machine at availability of journeys: usable, Open.
  Bids: prices, what is accepted, seats (the program).
  offer.Bid (the program).
  Layer 18's conditions: right curves, legs.
-/
import Derived.Test.YtlamgjbngblefaaGreatDoorSkV
namespace Go.Proofs.YtlamgjbngblefaaGreatDoor.Dm
open Go Gw
set_option linter.unusedSimpArgs false
set_option linter.unusedSimpArgs false

/-- A map from identifiers that has just those of a list. -/
def IdSet (ps : List (D × D)) (l : List Lid) : Prop := (∀ p ∈ ps, ∃ s : Lid, p.1 = .agg s.enc) ∧ ∀ t : Lid, lookM ps (.agg t.enc) = if t ∈ l then some (.bool true) else none
theorem IdSet.nil : IdSet [] [] := ⟨fun p h => (by cases h), fun t => by simp [lookM]⟩
theorem look_putL : ∀ (ps : List (D × D)) (s t : Lid) (v : D), (∀ p ∈ ps, ∃ s : Lid, p.1 = .agg s.enc) → lookM (putM ps (.agg s.enc) v) (.agg t.enc) = if s = t then some v else lookM ps (.agg t.enc)
  | [], s, t, v, _ => by
    by_cases e : s = t
    · simp [putM, lookM, key_eq, e]
    · simp [putM, lookM, key_eq, e]
  | (a, b) :: ps, s, t, v, h => by
    obtain ⟨u, hu⟩ := h (a, b) (by simp)
    have hu : a = .agg u.enc := hu
    subst hu
    have ih := look_putL ps s t v (fun p hp => h p (by simp [hp]))
    by_cases e : u = s
    · subst e
      rw [putM, key_eq, if_pos (by simp)]
      by_cases e2 : u = t
      · simp [lookM, key_eq, e2]
      · simp [lookM, key_eq, e2]
    · rw [putM, key_eq, if_neg (by simpa using e)]
      by_cases e2 : u = t
      · subst e2
        rw [if_neg (fun x => e x.symm)]
        simp [lookM, key_eq]
      · have l1 : lookM ((.agg u.enc, b) :: putM ps (.agg s.enc) v) (.agg t.enc) = lookM (putM ps (.agg s.enc) v) (.agg t.enc) := by simp [lookM, key_eq, e2]
        have l2 : lookM ((.agg u.enc, b) :: ps) (.agg t.enc) = lookM ps (.agg t.enc) := by simp [lookM, key_eq, e2]
        rw [l1, l2, ih]
theorem put_keysL : ∀ (ps : List (D × D)) (s : Lid) (v : D), (∀ p ∈ ps, ∃ s : Lid, p.1 = .agg s.enc) → ∀ p ∈ putM ps (.agg s.enc) v, ∃ s : Lid, p.1 = .agg s.enc
  | [], s, v, _, p, hp => by
    simp only [putM, List.mem_singleton] at hp
    subst hp
    exact ⟨s, rfl⟩
  | (a, b) :: ps, s, v, h, p, hp => by
    rw [putM] at hp
    split at hp
    · rcases List.mem_cons.1 hp with rfl | hp
      · exact h (a, b) (by simp)
      · exact h p (by simp [hp])
    · rcases List.mem_cons.1 hp with rfl | hp
      · exact h (a, b) (by simp)
      · exact put_keysL ps s v (fun q hq => h q (by simp [hq])) p hp
theorem IdSet.put {ps : List (D × D)} {l : List Lid} (h : IdSet ps l) (s : Lid) : IdSet (putM ps (.agg s.enc) (.bool true)) (l ++ [s]) := by
  refine ⟨put_keysL ps s _ h.1, fun t => ?_⟩
  rw [look_putL ps s t _ h.1, h.2]
  by_cases e : s = t
  · simp [e]
  · have e' : ¬ t = s := fun x => e x.symm
    simp [e, e']
section
variable {S : List Ob} {lab : Lab} {o k m n : Nat} {s : Stk} {ps : List (D × D)} {ids : List Lid}
set_option maxHeartbeats 8000000 in
set_option maxRecDepth 100000 in
theorem usable_c (hn : 190 ≤ n) (h : StkAt S lab o kL (.loc k 0 0) s k m ps) (hl : ids.length ≤ 20) (hids : ∀ id ∈ ids, id.Ok) {di : D} (hdi : FLs 4 Lid.enc di ids) (st : Bool) :
    callD E (dcall E n) st S 54 [.loc k 0 0, di] = some (.bool (usF s ids), S) := by
  obtain ⟨q, rfl⟩ : ∃ q, n = q + 1 := ⟨n - 1, by omega⟩
  have : WO (dcall E (q + 1) 54 [.loc k 0 0, di] S) fun r T => r = .bool (usF s ids) ∧ ExtS S T := by
    refine wo_dcall Tryz.func54 rfl (by decide) rfl 36 rfl (fun a hal ha => ?_)
    have h0 : a[0]? = some (.loc k 0 0) := ha 0 (by simp)
    have h1 : a[1]? = some (di) := ha 1 (by simp)
    clear ha
    rcases hdi with ⟨rfl, rfl⟩ | ⟨x, rfl⟩
    · simp (maxSteps := 1000000) (disch := omega) only [push_cast, ↓wc_seq, ↓wc_block, ↓wc_region, ↓wr_cons, ↓wr_nil, ↓wc_wl, wo_some, opQ_eq, seqQ_normal, Nat.reduceAdd, Nat.reduceMul, Nat.reduceLT, Nat.reduceEqDiff, ↓reduceIte, planIds, List.contains_cons, List.contains_nil, Nat.reduceBEq, setC, List.length_set, eq_self, Nat.zero_add, planIds, List.contains_cons, List.contains_nil, Nat.reduceBEq, Nat.reduceMul, Nat.reduceAdd, ↓reduceIte, hal, h1]
      refine wl_loop (fun i a T => i = 0 ∧ T = S ++ [.map kL []] ∧ a.length = 36 ∧ a[1]? = some (.nils) ∧ a[12]? = some (.int .i64 0) ∧ a[13]? = some (.int .i64 0)) 0 ?_ (by omega) ?_
      · simp (maxSteps := 1000000) (disch := omega) only [push_cast, Nat.reduceLT, Nat.reduceEqDiff, ↓reduceIte, setC, List.length_set, eq_self, ↓reduceIte, hal, h1]
      clear hal h0 h1 a
      rintro i a T _ ⟨rfl, rfl, hal, h1, h12, h13⟩
      simp (maxSteps := 1000000) (disch := omega) only [push_cast, ↓wc_seq, ↓wc_condL, ↓wc_region, ↓wr_cons, ↓wr_nil, ↓wc_exit, ↓wc_ret, wo_some, opQ_eq, seqQ_normal, seqQ_exit, blockQ_exit, iterQ_exit, retQ_ret, pickC_false, Nat.reduceAdd, Nat.reduceMul, Nat.reduceLT, Nat.reduceEqDiff, ↓reduceIte, planIds, List.contains_cons, List.contains_nil, Nat.reduceBEq, setC, List.length_set, eq_self, Nat.zero_add, gt_iff_lt, ne_eq, not_true_eq_false, planIds, List.contains_cons, List.contains_nil, Nat.reduceBEq, Nat.reduceMul, Nat.reduceAdd, ↓reduceIte, hal, h1, h12, h13, Int.lt_irrefl, usF, Tryz.f54]
      exact ExtS.app
    simp (maxSteps := 1000000) (disch := omega) only [push_cast, ↓wc_seq, ↓wc_block, ↓wc_region, ↓wr_cons, ↓wr_nil, ↓wc_wl, wo_some, opQ_eq, seqQ_normal, Nat.reduceAdd, Nat.reduceMul, Nat.reduceLT, Nat.reduceEqDiff, ↓reduceIte, planIds, List.contains_cons, List.contains_nil, Nat.reduceBEq, setC, List.length_set, eq_self, Nat.zero_add, planIds, List.contains_cons, List.contains_nil, Nat.reduceBEq, Nat.reduceMul, Nat.reduceAdd, ↓reduceIte, hal, h1, List.length_map]
    refine wl_loop (fun i a T => a.length = 36 ∧ a[0]? = some (.loc k 0 0) ∧ a[1]? = some (.sl 4 (ids.map Lid.enc) x) ∧ a[5]? = some (.map S.length) ∧ a[11]? = some (.sl 4 (ids.map Lid.enc) x) ∧ a[12]? = some (.int .i64 ids.length) ∧ a[13]? = some (.int .i64 i) ∧ ExtS S T ∧ (∃ ms, T[S.length]? = some (.map kL ms) ∧ IdSet ms (ids.take i)) ∧ (ids.take i).Nodup ∧ ∀ j id, j < i → ids[j]? = some id → (s.get id).isSome = true) ids.length ?_ (by omega) ?_
    · simp (maxSteps := 1000000) (disch := omega) only [push_cast, Nat.reduceLT, Nat.reduceEqDiff, ↓reduceIte, setC, List.length_set, reduceCtorEq, eq_self, ↓reduceIte, hal, h0, h1, Int.natCast_zero, List.take_zero, List.nodup_nil]
      exact ⟨ExtS.app, ⟨[], get_end, IdSet.nil⟩, fun j id hj => by omega⟩
    clear hal h0 h1 a
    rintro i a T hi ⟨hal, h0, h1, h5, h11, h12, h13, hx, ⟨ms, hm, hset⟩, hnd, hsome⟩
    rcases Nat.lt_or_eq_of_le hi with hlt | rfl
    case inr =>
      rw [List.take_length] at hnd
      have hall : (ids.all fun id => (s.get id).isSome) = true := List.all_eq_true.2 fun id hid => by
        obtain ⟨j, hj⟩ := List.mem_iff_getElem?.1 hid
        exact hsome j id (lt_of_get hj) hj
      have hus : usF s ids = decide (0 < ids.length) := by
        unfold usF
        rw [hall, decide_eq_true hnd, Bool.and_true, Bool.and_true]
        cases ids <;> simp
      rw [hus]
      simp (maxSteps := 1000000) (disch := omega) only [push_cast, ↓wc_seq, ↓wc_condL, ↓wc_region, ↓wr_cons, ↓wr_nil, ↓wc_exit, ↓wc_ret, wo_some, opQ_eq, seqQ_normal, seqQ_exit, blockQ_exit, iterQ_exit, retQ_ret, pickC_false, Nat.reduceAdd, Nat.reduceMul, Nat.reduceLT, Nat.reduceEqDiff, ↓reduceIte, planIds, List.contains_cons, List.contains_nil, Nat.reduceBEq, setC, List.length_set, eq_self, Int.ofNat_lt, Nat.zero_add, gt_iff_lt, planIds, List.contains_cons, List.contains_nil, Nat.reduceBEq, Nat.reduceMul, Nat.reduceAdd, ↓reduceIte, hal, h1, h12, h13, Nat.lt_irrefl, List.length_map, gt_iff_lt, Tryz.f54]
      exact ⟨by simp, hx⟩
    obtain ⟨id, hid⟩ : ∃ id, ids[i]? = some id := ⟨ids[i], by simp⟩
    have hidm := List.mem_of_getElem? hid
    have hT := (h.keep (KeepO.ext hx)).push [.row 4 [id.enc]]
    have ce := Equip_c (n := q) (by omega) hT (hids id hidm)
    have ko := keyOk_lid (hids id hidm)
    have ks := keys_lid
    have hmx : ∀ ob, (T ++ [ob])[S.length]? = some (.map kL ms) := fun ob => get_old hm
    have hlk := hset.2 id
    have hTl := lt_of_get hm
    rcases hg : s.get id with _ | y
    · have hus : usF s ids = false := by
        unfold usF
        rw [all_false (p := fun id => (s.get id).isSome) hid (by rw [hg]; rfl), Bool.and_false]
      rw [hus]
      have heq : s.equip id = none := by unfold Stk.equip; rw [hg]; rfl
      rw [heq] at ce
      simp only [Lid.enc, equipD] at ce
      simp (maxSteps := 1000000) (disch := omega) only [push_cast, ↓wc_seq, ↓wc_block, ↓wc_condL, ↓wc_region, ↓wr_cons, ↓wr_consgL, ↓wr_nil, ↓wo_pickL, ↓wo_callf, ↓wc_ret, ↓wc_skip, wo_some, opQ_eq, seqQ_normal, seqQ_ret, blockQ_ret, iterQ_ret, retQ_ret, pickC_true, pickO_true, gstep_tf, Nat.reduceAdd, Nat.reduceMul, Nat.reduceLT, Nat.reduceLeDiff, Nat.reduceEqDiff, ↓reduceIte, planIds, hasExt, cntFs, idxFs, clnFs, ovlFs, List.contains_cons, List.contains_nil, List.any_nil, Nat.reduceBEq, setC, List.length_set, reduceCtorEq, eq_self, Int.natCast_nonneg, Int.toNat_natCast, Int.ofNat_lt, Nat.zero_add, planIds, hasExt, cntFs, idxFs, clnFs, ovlFs, List.contains_cons, List.contains_nil, List.any_nil, Nat.reduceBEq, Nat.reduceMul, Nat.reduceAdd, ↓reduceIte, hal, h0, h11, h12, h13, hlt, hid, set_end, get_end, ce, dUn, List.getElem?_map, Lid.enc, Tryz.f54]
      exact hx.push _
    · have heq : s.equip id = some y.cfg.equip := by unfold Stk.equip; rw [hg]; rfl
      rw [heq] at ce
      by_cases hin : id ∈ ids.take i
      · have hus : usF s ids = false := by
          unfold usF
          obtain ⟨j, hj⟩ := List.mem_iff_getElem?.1 hin
          have hji : j < i := by
            have := lt_of_get hj
            rw [List.length_take] at this; omega
          rw [List.getElem?_take_of_lt hji] at hj
          rw [decide_eq_false (dup_of hji hj hid), Bool.and_false, Bool.false_and]
        rw [hus]
        rw [if_pos hin] at hlk
        simp only [Lid.enc, equipD] at ce ko hlk
        simp (maxSteps := 1000000) (disch := omega) only [push_cast, ↓wc_seq, ↓wc_block, ↓wc_condL, ↓wc_region, ↓wr_cons, ↓wr_consgL, ↓wr_nil, ↓wo_pickL, ↓wo_callf, ↓wc_ret, ↓wc_skip, wo_some, opQ_eq, seqQ_normal, seqQ_ret, blockQ_ret, iterQ_ret, retQ_ret, pickC_true, pickO_false, gstep_ff, Nat.reduceAdd, Nat.reduceMul, Nat.reduceLT, Nat.reduceLeDiff, Nat.reduceEqDiff, ↓reduceIte, planIds, hasExt, cntFs, idxFs, clnFs, ovlFs, List.contains_cons, List.contains_nil, List.any_nil, Nat.reduceBEq, setC, List.length_set, reduceCtorEq, eq_self, Int.natCast_nonneg, Int.toNat_natCast, Int.ofNat_lt, Nat.zero_add, planIds, hasExt, cntFs, idxFs, clnFs, ovlFs, List.contains_cons, List.contains_nil, List.any_nil, Nat.reduceBEq, Nat.reduceMul, Nat.reduceAdd, ↓reduceIte, hal, h0, h5, h11, h12, h13, hlt, hid, set_end, get_end, ce, hmx, ko, ks, hlk, dUn, List.getElem?_map, Lid.enc, Tryz.f54]
        exact hx.push _
      · rw [if_neg hin] at hlk
        have hput := hset.put id
        have hst : ids.take i ++ [id] = ids.take (i + 1) := by rw [List.take_add_one, hid]; rfl
        rw [hst] at hput
        have hltm : S.length < (T ++ [Ob.row 4 [id.enc]]).length := by rw [List.length_append]; omega
        simp only [Lid.enc, equipD] at ce ko hlk hput hltm
        simp (maxSteps := 1000000) (disch := omega) only [push_cast, ↓wc_seq, ↓wc_block, ↓wc_condL, ↓wc_region, ↓wr_cons, ↓wr_consgL, ↓wr_nil, ↓wo_pickL, ↓wo_callf, ↓wc_skip, wo_some, opQ_eq, seqQ_normal, blockQ_normal, iterQ_normal, pickC_true, pickC_false, pickO_false, gstep_ff, Nat.reduceAdd, Nat.reduceMul, Nat.reduceLT, Nat.reduceLeDiff, Nat.reduceEqDiff, ↓reduceIte, planIds, hasExt, cntFs, idxFs, clnFs, ovlFs, List.contains_cons, List.contains_nil, List.any_nil, Nat.reduceBEq, setC, List.length_set, reduceCtorEq, eq_self, Int.natCast_nonneg, Int.toNat_natCast, Int.ofNat_lt, Nat.zero_add, planIds, hasExt, cntFs, idxFs, clnFs, ovlFs, List.contains_cons, List.contains_nil, List.any_nil, Nat.reduceBEq, Nat.reduceMul, Nat.reduceAdd, ↓reduceIte, hal, h0, h1, h5, h11, h12, h13, hlt, hid, set_end, get_end, ce, hmx, ko, ks, hlk, dUn, List.getElem?_map, Lid.enc, wrap_ok, Int.natCast_add, Int.natCast_one]
        refine ⟨(hx.push _).set (Nat.le_refl _) _, ⟨_, if_pos hltm, hput⟩, take_nodup hnd hid (fun j hj e => hin (List.mem_of_getElem? (i := j) (by rw [List.getElem?_take_of_lt hj]; exact e))), fun j id' hj hj' => ?_⟩
        by_cases ej : j = i
        · subst ej
          rw [hid] at hj'
          cases hj'
          rw [hg]; rfl
        · exact hsome j id' (by omega) hj'
  obtain ⟨_, U, ho, rfl, hx⟩ := this
  exact callD_obsS rfl (by simp [pureL_cons, D.pure]) ho hx rfl
set_option maxHeartbeats 8000000 in
set_option maxRecDepth 100000 in
theorem OOpen_c (hn : 210 ≤ n) (h : StkAt S lab o kL (.loc k 0 0) s k m ps) (ok : StkOk 9999 s) (hl : ids.length ≤ 20) (hids : ∀ id ∈ ids, id.Ok) {di : D} (hdi : FLs 4 Lid.enc di ids) (cl : ByteArray) (st : Bool) :
    callD E (dcall E n) st S 16 [.loc k 0 0, di, .str cl] = some (.int .i64 (openF s ids cl), S) := by
  obtain ⟨q, rfl⟩ : ∃ q, n = q + 1 := ⟨n - 1, by omega⟩
  have cu := usable_c (n := q) (by omega) h hl hids hdi
  have : WO (dcall E (q + 1) 16 [.loc k 0 0, di, .str cl] S) fun r T => r = .int .i64 (openF s ids cl) ∧ ExtS S T := by
    refine wo_dcall Tryz.func16 rfl (by decide) rfl 35 rfl (fun a hal ha => ?_)
    have h0 : a[0]? = some (.loc k 0 0) := ha 0 (by simp)
    have h1 : a[1]? = some (di) := ha 1 (by simp)
    have h2 : a[2]? = some (.str cl) := ha 2 (by simp)
    clear ha
    unfold openF
    cases hu : usF s ids
    · rw [hu] at cu
      rw [if_neg (by simp)]
      simp (maxSteps := 1000000) (disch := omega) only [push_cast, ↓wc_seq, ↓wc_condL, ↓wc_region, ↓wr_cons, ↓wr_nil, ↓wo_callf, ↓wc_ret, wo_some, opQ_eq, seqQ_normal, seqQ_ret, retQ_ret, pickC_true, Nat.reduceAdd, Nat.reduceMul, Nat.reduceLT, Nat.reduceEqDiff, ↓reduceIte, planIds, hasExt, cntFs, idxFs, clnFs, ovlFs, List.contains_cons, List.contains_nil, List.any_nil, Nat.reduceBEq, setC, List.length_set, reduceCtorEq, eq_self, Nat.zero_add, planIds, hasExt, cntFs, idxFs, clnFs, ovlFs, List.contains_cons, List.contains_nil, List.any_nil, Nat.reduceBEq, Nat.reduceMul, Nat.reduceAdd, ↓reduceIte, hal, h0, h1, cu, dUn, Tryz.f16]
      exact ExtS.refl
    rw [hu] at cu
    rw [if_pos rfl]
    have hne : ids ≠ [] := by
      rintro rfl
      simp [usF] at hu
    rcases ids with _ | ⟨id0, rest⟩
    · exact absurd rfl hne
    obtain ⟨x, rfl⟩ : ∃ x, di = .sl 4 ((id0 :: rest).map Lid.enc) x := by
      rcases hdi with ⟨-, e⟩ | h
      · cases e
      · exact h
    have c0 := Left_c (n := q) (by omega) h ok (hids id0 (by simp)) cl
    have hrl : rest.length ≤ 19 := by simpa using hl
    have e1 : ¬ (rest.length : Int) + 1 < 1 := by omega
    have e2 : (rest.map Lid.enc).take rest.length = rest.map Lid.enc := List.take_of_length_le (by simp)
    dsimp only
    simp only [Lid.enc, List.map_cons] at c0 h1 cu
    change a[1]? = some (.sl 4 ([.str id0.c, .int .i64 id0.n, .int .i64 id0.d, .str id0.f] :: rest.map Lid.enc) x) at h1
    simp (maxSteps := 1000000) (disch := omega) only [push_cast, ↓wc_seq, ↓wc_block, ↓wc_condL, ↓wc_region, ↓wr_cons, ↓wr_nil, ↓wo_callf, ↓wc_skip, ↓wc_wl, wo_some, opQ_eq, seqQ_normal, pickC_false, Nat.reduceAdd, Nat.reduceMul, Nat.reduceLT, Nat.reduceEqDiff, Int.reduceLE, ↓reduceIte, planIds, hasExt, cntFs, idxFs, clnFs, ovlFs, List.contains_cons, List.contains_nil, List.any_nil, Nat.reduceBEq, setC, List.length_set, reduceCtorEq, eq_self, Nat.zero_add, planIds, hasExt, cntFs, idxFs, clnFs, ovlFs, List.contains_cons, List.contains_nil, List.any_nil, Nat.reduceBEq, Nat.reduceMul, Nat.reduceAdd, ↓reduceIte, hal, h0, h1, h2, cu, c0, dUn, List.length_map, List.length_cons, Nat.add_sub_cancel, e2, Nat.le_add_left, Nat.le_refl, List.drop_succ_cons, List.drop_zero]
    have hmin : ∀ (m : Int) (j : Nat) (id : Lid), rest[j]? = some id → minF s cl m (rest.drop j) = minF s cl (min m (s.left id cl)) (rest.drop (j + 1)) := fun m j id hj => by rw [drop_at hj, minF]
    refine wl_loop (fun i a T => a.length = 35 ∧ a[0]? = some (.loc k 0 0) ∧ a[2]? = some (.str cl) ∧ a[21]? = some (.sl 4 (rest.map Lid.enc) x) ∧ a[22]? = some (.int .i64 rest.length) ∧ a[23]? = some (.int .i64 i) ∧ ExtS S T ∧ ∃ w, a[7]? = some (.int .i64 w) ∧ minF s cl (s.left id0 cl) rest = minF s cl w (rest.drop i)) rest.length ?_ (by omega) ?_
    · simp (maxSteps := 1000000) (disch := omega) only [push_cast, Nat.reduceLT, Nat.reduceEqDiff, ↓reduceIte, setC, List.length_set, reduceCtorEq, eq_self, D.int.injEq, Option.some.injEq, ↓reduceIte, hal, h0, h2, Int.natCast_zero, List.drop_zero]
      exact ⟨ExtS.refl, _, rfl, rfl⟩
    clear hal h0 h1 h2 a
    rintro i a T hi ⟨hal, h0, h2, h21, h22, h23, hx, w, h7, hw⟩
    rcases Nat.lt_or_eq_of_le hi with hlt | rfl
    case inr =>
      rw [hw, List.drop_length]
      simp (maxSteps := 1000000) (disch := omega) only [push_cast, ↓wc_seq, ↓wc_condL, ↓wc_region, ↓wr_cons, ↓wr_nil, ↓wc_exit, ↓wc_ret, wo_some, opQ_eq, seqQ_normal, seqQ_exit, blockQ_exit, iterQ_exit, retQ_ret, pickC_false, Nat.reduceAdd, Nat.reduceMul, Nat.reduceLT, Nat.reduceEqDiff, ↓reduceIte, planIds, List.contains_cons, List.contains_nil, Nat.reduceBEq, setC, List.length_set, eq_self, Int.ofNat_lt, Nat.zero_add, planIds, List.contains_cons, List.contains_nil, Nat.reduceBEq, Nat.reduceMul, Nat.reduceAdd, ↓reduceIte, hal, h7, h22, h23, Nat.lt_irrefl, minF, Tryz.f16]
      exact hx
    obtain ⟨id, hid⟩ : ∃ id, rest[i]? = some id := ⟨rest[i], by simp⟩
    have hidm := List.mem_of_getElem? hid
    have hT := (h.keep (KeepO.ext hx)).push [.row 4 [id.enc]]
    have cl' := Left_c (n := q) (by omega) hT ok (hids id (by simp [hidm])) cl
    rw [hmin w i id hid] at hw
    simp only [Lid.enc] at cl'
    by_cases hlw : w ≤ s.left id cl
    · rw [Int.min_eq_left hlw] at hw
      simp (maxSteps := 1000000) (disch := omega) only [push_cast, ↓wc_seq, ↓wc_block, ↓wc_condL, ↓wc_region, ↓wr_cons, ↓wr_nil, ↓wo_callf, ↓wc_skip, wo_some, opQ_eq, seqQ_normal, blockQ_normal, iterQ_normal, pickC_true, Nat.reduceAdd, Nat.reduceMul, Nat.reduceLT, Nat.reduceLeDiff, Nat.reduceEqDiff, ↓reduceIte, planIds, hasExt, cntFs, idxFs, clnFs, ovlFs, List.contains_cons, List.contains_nil, List.any_nil, Nat.reduceBEq, setC, List.length_set, reduceCtorEq, eq_self, Int.natCast_nonneg, Int.toNat_natCast, Int.ofNat_lt, D.int.injEq, Option.some.injEq, Nat.zero_add, planIds, hasExt, cntFs, idxFs, clnFs, ovlFs, List.contains_cons, List.contains_nil, List.any_nil, Nat.reduceBEq, Nat.reduceMul, Nat.reduceAdd, ↓reduceIte, hal, h0, h2, h7, h21, h22, h23, hlt, hid, set_end, get_end, cl', List.getElem?_map, Lid.enc, wrap_ok, Int.natCast_add, Int.natCast_one]
      exact ⟨hx.push _, _, rfl, by rw [if_neg (by omega)]; exact hw⟩
    · rw [Int.min_eq_right (by omega)] at hw
      simp (maxSteps := 1000000) (disch := omega) only [push_cast, ↓wc_seq, ↓wc_block, ↓wc_condL, ↓wc_region, ↓wr_cons, ↓wr_nil, ↓wo_callf, ↓wc_skip, wo_some, opQ_eq, seqQ_normal, blockQ_normal, iterQ_normal, pickC_true, Nat.reduceAdd, Nat.reduceMul, Nat.reduceLT, Nat.reduceLeDiff, Nat.reduceEqDiff, ↓reduceIte, planIds, hasExt, cntFs, idxFs, clnFs, ovlFs, List.contains_cons, List.contains_nil, List.any_nil, Nat.reduceBEq, setC, List.length_set, reduceCtorEq, eq_self, Int.natCast_nonneg, Int.toNat_natCast, Int.ofNat_lt, D.int.injEq, Option.some.injEq, Nat.zero_add, planIds, hasExt, cntFs, idxFs, clnFs, ovlFs, List.contains_cons, List.contains_nil, List.any_nil, Nat.reduceBEq, Nat.reduceMul, Nat.reduceAdd, ↓reduceIte, hal, h0, h2, h7, h21, h22, h23, hlt, hid, set_end, get_end, cl', List.getElem?_map, Lid.enc, wrap_ok, Int.natCast_add, Int.natCast_one]
      exact ⟨hx.push _, _, rfl, by rw [if_pos (by omega)]; exact hw⟩
  obtain ⟨_, U, ho, rfl, hx⟩ := this
  exact callD_obsS rfl (by simp [pureL_cons, D.pure]) ho hx rfl
end
set_option linter.unusedSimpArgs false

/-! ### Plain -/
/-- A curve as it is handed in. -/
structure Crv where
  d : D
  l : List Int
  ok : FLs 1 encZ d l
def Crv.enc (c : Crv) : List D := [c.d]
def RightI (l : List Int) : Prop := l.length ≤ 60 ∧ ∀ v ∈ l, 0 ≤ v ∧ v ≤ 1099511627776
def priceF (l : List Int) (left : Int) : Int := if left < 1 then -1 else if (l.length : Int) < left then 0 else l.getD (left - 1).toNat 0
theorem priceF_rng {l : List Int} (h : RightI l) (n : Int) : -1 ≤ priceF l n ∧ priceF l n ≤ 1099511627776 := by
  unfold priceF
  split
  · omega
  · split
    · omega
    · rw [List.getD_eq_getElem?_getD]
      rcases hg : l[(n - 1).toNat]? with _ | v
      · simp
      · have := h.2 v (List.mem_of_getElem? hg)
        simp only [Option.getD_some]; omega
/-- What the prices come to with so many seats taken. -/
def costF (t : Int) : List (Crv × Int) → Int
  | [] => 0
  | p :: ps => priceF p.1.l (p.2 - t) + costF t ps
def accF (ps : List (Crv × Int)) (v t : Int) : Bool := (ps.all fun p => decide (t < p.2)) && decide (costF t ps ≤ v)
def cntF (p : Nat → Bool) : Nat → Nat → Nat
  | n, 0 => n
  | n, k + 1 => if p n = true then cntF p (n + 1) k else n
def seatsF (ps : List (Crv × Int)) (v most : Int) : Nat := cntF (fun n => accF ps v n) 0 (min most 999).toNat

/-! ### The machine -/
set_option maxHeartbeats 4000000 in
set_option maxRecDepth 100000 in
theorem Price_c {n : Nat} (hn : 1 ≤ n) (c : Crv) (hc : c.l.length ≤ 60) {left : Int} (b1 : -100000 ≤ left) (b2 : left ≤ 100000) (st : Bool) (S : List Ob) :
    callD E (dcall E n) st S 131 [c.d, .int .i64 left] = some (.int .i64 (priceF c.l left), S) := by
  obtain ⟨q, rfl⟩ : ∃ q, n = q + 1 := ⟨n - 1, by omega⟩
  obtain ⟨d, l, ok⟩ := c
  dsimp only at *
  have hp : d.pure = true := ok.pure (zs_pure l)
  have : WO (dcall E (q + 1) 131 [d, .int .i64 left] []) fun r T => r = .int .i64 (priceF l left) := by
    refine wo_dcall Tryz.func131 rfl (by decide) rfl 18 rfl (fun a hal ha => ?_)
    have h0 : a[0]? = some (d) := ha 0 (by simp)
    have h1 : a[1]? = some (.int .i64 left) := ha 1 (by simp)
    clear ha
    unfold priceF
    by_cases e1 : left < 1
    · rw [if_pos e1]
      simp (maxSteps := 1000000) (disch := omega) only [push_cast, ↓wc_seq, ↓wc_block, ↓wc_condL, ↓wc_region, ↓wr_cons, ↓wr_nil, ↓wc_ret, wo_some, opQ_eq, seqQ_normal, seqQ_ret, blockQ_ret, retQ_ret, pickC_true, Nat.reduceAdd, Nat.reduceMul, Nat.reduceLT, Nat.reduceEqDiff, Int.reduceNeg, ↓reduceIte, planIds, List.contains_cons, List.contains_nil, Nat.reduceBEq, setC, List.length_set, eq_self, Nat.zero_add, planIds, List.contains_cons, List.contains_nil, Nat.reduceBEq, Nat.reduceMul, Nat.reduceAdd, ↓reduceIte, hal, h1, e1, Tryz.f131]
    rw [if_neg e1]
    by_cases e2 : (l.length : Int) < left
    · rw [if_pos e2]
      rcases ok with ⟨rfl, rfl⟩ | ⟨x, rfl⟩
      · simp only [List.length_nil] at e2
        have e2' : (0 : Int) < left := by omega
        simp (maxSteps := 1000000) (disch := omega) only [push_cast, ↓wc_seq, ↓wc_block, ↓wc_condL, ↓wc_region, ↓wr_cons, ↓wr_nil, ↓wc_ret, wo_some, opQ_eq, seqQ_normal, seqQ_ret, blockQ_ret, retQ_ret, pickC_true, pickC_false, Nat.reduceAdd, Nat.reduceMul, Nat.reduceLT, Nat.reduceEqDiff, Int.reduceNeg, ↓reduceIte, planIds, List.contains_cons, List.contains_nil, Nat.reduceBEq, setC, List.length_set, reduceCtorEq, eq_self, Nat.zero_add, gt_iff_lt, planIds, List.contains_cons, List.contains_nil, Nat.reduceBEq, Nat.reduceMul, Nat.reduceAdd, ↓reduceIte, hal, h0, h1, e1, e2', gt_iff_lt, Tryz.f131]
      · simp (maxSteps := 1000000) (disch := omega) only [push_cast, ↓wc_seq, ↓wc_block, ↓wc_condL, ↓wc_region, ↓wr_cons, ↓wr_nil, ↓wc_ret, wo_some, opQ_eq, seqQ_normal, seqQ_ret, blockQ_ret, retQ_ret, pickC_true, pickC_false, Nat.reduceAdd, Nat.reduceMul, Nat.reduceLT, Nat.reduceEqDiff, Int.reduceNeg, ↓reduceIte, planIds, List.contains_cons, List.contains_nil, Nat.reduceBEq, setC, List.length_set, reduceCtorEq, eq_self, Nat.zero_add, gt_iff_lt, planIds, List.contains_cons, List.contains_nil, Nat.reduceBEq, Nat.reduceMul, Nat.reduceAdd, ↓reduceIte, hal, h0, h1, e1, e2, gt_iff_lt, List.length_map, Tryz.f131]
    rw [if_neg e2]
    obtain ⟨j, rfl⟩ : ∃ j : Nat, left = j + 1 := ⟨(left - 1).toNat, by omega⟩
    have hj : j < l.length := by omega
    have e3 : ((j : Int) + 1 - 1).toNat = j := by omega
    have e4 : (j : Int) + 1 - 1 = j := by omega
    rcases ok with ⟨rfl, rfl⟩ | ⟨x, rfl⟩
    · simp at hj
    have hg : l[j]? = some l[j] := List.getElem?_eq_getElem hj
    rw [e3, List.getD_eq_getElem?_getD, hg]
    simp (maxSteps := 1000000) (disch := omega) only [push_cast, ↓wc_seq, ↓wc_block, ↓wc_condL, ↓wc_region, ↓wr_cons, ↓wr_nil, ↓wc_ret, ↓wc_skip, wo_some, opQ_eq, seqQ_normal, blockQ_normal, retQ_ret, pickC_false, Nat.reduceAdd, Nat.reduceMul, Nat.reduceLT, Nat.reduceEqDiff, Int.reduceNeg, ↓reduceIte, planIds, List.contains_cons, List.contains_nil, Nat.reduceBEq, setC, List.length_set, reduceCtorEq, eq_self, Int.natCast_nonneg, Int.toNat_natCast, Nat.zero_add, gt_iff_lt, planIds, List.contains_cons, List.contains_nil, Nat.reduceBEq, Nat.reduceMul, Nat.reduceAdd, ↓reduceIte, hal, h0, h1, e1, e2, e4, hg, gt_iff_lt, List.length_map, List.getElem?_map, encZ, wrap_ok, Tryz.f131]
  obtain ⟨_, U, ho, rfl⟩ := this
  exact callD_pure rfl (by simp [pureL_cons, pureL_nil, D.pure, hp]) ho rfl
theorem costF_app (t : Int) : ∀ (ps qs : List (Crv × Int)), costF t (ps ++ qs) = costF t ps + costF t qs
  | [], qs => by simp [costF]
  | p :: ps, qs => by simp only [List.cons_append, costF, costF_app t ps qs]; omega
theorem costF_take {t : Int} {ps : List (Crv × Int)} {i : Nat} {p : Crv × Int} (h : ps[i]? = some p) : costF t (ps.take (i + 1)) = costF t (ps.take i) + priceF p.1.l (p.2 - t) := by
  rw [List.take_add_one, h, costF_app]; simp [costF]
theorem costF_rng {t : Int} : ∀ {ps : List (Crv × Int)}, (∀ p ∈ ps, RightI p.1.l) → -(ps.length : Int) ≤ costF t ps ∧ costF t ps ≤ 1099511627776 * ps.length
  | [], _ => by simp [costF]
  | p :: ps, h => by
    have a := priceF_rng (h p (by simp)) (p.2 - t)
    have b := costF_rng (t := t) (ps := ps) (fun q hq => h q (by simp [hq]))
    simp only [costF, List.length_cons, Int.natCast_add, Int.natCast_one]
    omega
/-- What a bid is made of: at most six legs, curves in order, few seats. -/
def PsOk (ps : List (Crv × Int)) : Prop := ps.length ≤ 6 ∧ ∀ p ∈ ps, RightI p.1.l ∧ -10000 ≤ p.2 ∧ p.2 ≤ 10000
set_option maxHeartbeats 4000000 in
set_option maxRecDepth 100000 in
theorem accepted_c {n kl : Nat} {S : List Ob} (hn : 20 ≤ n) {ps : List (Crv × Int)} (ok : PsOk ps) {cu : D} (hcu : FLs 1 Crv.enc cu (ps.map (·.1))) (hk : S[kl]? = some (.row 1 ((ps.map (·.2)).map encZ))) (v : Int) {t : Int} (t1 : 0 ≤ t) (t2 : t ≤ 1000) (st : Bool) :
    callD E (dcall E n) st S 105 [cu, .os kl 0 ps.length false, .int .i64 v, .int .i64 t] = some (.bool (accF ps v t), S) := by
  obtain ⟨q, rfl⟩ : ∃ q, n = q + 1 := ⟨n - 1, by omega⟩
  have hl := ok.1
  have : WO (dcall E (q + 1) 105 [cu, .os kl 0 ps.length false, .int .i64 v, .int .i64 t] S) fun r T => r = .bool (accF ps v t) ∧ T = S := by
    refine wo_dcall Tryz.func105 rfl (by decide) rfl 39 rfl (fun a hal ha => ?_)
    have h0 : a[0]? = some (cu) := ha 0 (by simp)
    have h1 : a[1]? = some (.os kl 0 ps.length false) := ha 1 (by simp)
    have h2 : a[2]? = some (.int .i64 v) := ha 2 (by simp)
    have h3 : a[3]? = some (.int .i64 t) := ha 3 (by simp)
    clear ha
    rcases hcu with ⟨rfl, e⟩ | ⟨x, rfl⟩
    · have e' : ps = [] := by simpa using e
      subst e'
      simp (maxSteps := 1000000) (disch := omega) only [push_cast, ↓wc_seq, ↓wc_block, ↓wc_region, ↓wr_cons, ↓wr_nil, ↓wc_wl, wo_some, opQ_eq, seqQ_normal, Nat.reduceAdd, Nat.reduceMul, Nat.reduceLT, ↓reduceIte, planIds, List.contains_cons, List.contains_nil, Nat.reduceBEq, setC, List.length_set, reduceCtorEq, eq_self, Nat.zero_add, planIds, List.contains_cons, List.contains_nil, Nat.reduceBEq, Nat.reduceMul, Nat.reduceAdd, ↓reduceIte, hal, h0]
      refine wl_loop (fun i a T => i = 0 ∧ T = S ∧ a.length = 39 ∧ a[2]? = some (.int .i64 v) ∧ a[9]? = some (.int .i64 0) ∧ a[13]? = some (.int .i64 0) ∧ a[14]? = some (.int .i64 0)) 0 ?_ (by omega) ?_
      · simp (maxSteps := 1000000) (disch := omega) only [push_cast, Nat.reduceLT, Nat.reduceEqDiff, ↓reduceIte, setC, List.length_set, eq_self, ↓reduceIte, hal, h2]
      clear hal h0 h1 h2 h3 a
      rintro i a T _ ⟨rfl, rfl, hal, h2, h9, h13, h14⟩
      simp (maxSteps := 1000000) (disch := omega) only [push_cast, ↓wc_seq, ↓wc_condL, ↓wc_region, ↓wr_cons, ↓wr_nil, ↓wc_exit, ↓wc_ret, wo_some, opQ_eq, seqQ_normal, seqQ_exit, blockQ_exit, iterQ_exit, retQ_ret, pickC_false, Nat.reduceAdd, Nat.reduceMul, Nat.reduceLT, Nat.reduceEqDiff, ↓reduceIte, planIds, List.contains_cons, List.contains_nil, Nat.reduceBEq, setC, List.length_set, eq_self, Nat.zero_add, planIds, List.contains_cons, List.contains_nil, Nat.reduceBEq, Nat.reduceMul, Nat.reduceAdd, ↓reduceIte, hal, h2, h9, h13, h14, Int.lt_irrefl, Tryz.f105]
      simp [accF, costF]
      congr
    simp (maxSteps := 1000000) (disch := omega) only [push_cast, ↓wc_seq, ↓wc_block, ↓wc_region, ↓wr_cons, ↓wr_nil, ↓wc_wl, wo_some, opQ_eq, seqQ_normal, Nat.reduceAdd, Nat.reduceMul, Nat.reduceLT, ↓reduceIte, planIds, List.contains_cons, List.contains_nil, Nat.reduceBEq, setC, List.length_set, reduceCtorEq, eq_self, Nat.zero_add, planIds, List.contains_cons, List.contains_nil, Nat.reduceBEq, Nat.reduceMul, Nat.reduceAdd, ↓reduceIte, hal, h0, List.length_map]
    refine wl_loop (fun i a T => T = S ∧ a.length = 39 ∧ a[1]? = some (.os kl 0 ps.length false) ∧ a[2]? = some (.int .i64 v) ∧ a[3]? = some (.int .i64 t) ∧ a[9]? = some (.int .i64 (costF t (ps.take i))) ∧ a[12]? = some (.sl 1 ((ps.map (·.1)).map Crv.enc) x) ∧ a[13]? = some (.int .i64 ps.length) ∧ a[14]? = some (.int .i64 i) ∧ ∀ j p, j < i → ps[j]? = some p → t < p.2) ps.length ?_ (by omega) ?_
    · simp (maxSteps := 1000000) (disch := omega) only [push_cast, Nat.reduceLT, Nat.reduceEqDiff, ↓reduceIte, setC, List.length_set, eq_self, ↓reduceIte, hal, h1, h2, h3, Int.natCast_zero, List.take_zero, costF]
      exact fun j p hj => by omega
    clear hal h0 h1 h2 h3 a
    rintro i a T hi ⟨rfl, hal, h1, h2, h3, h9, h12, h13, h14, hall⟩
    rcases Nat.lt_or_eq_of_le hi with hlt | rfl
    case inr =>
      have hb : (ps.all fun p => decide (t < p.2)) = true := List.all_eq_true.2 fun p hp => by
        obtain ⟨j, hj⟩ := List.mem_iff_getElem?.1 hp
        exact decide_eq_true (hall j p (lt_of_get hj) hj)
      rw [accF, hb, Bool.true_and]
      rw [List.take_length] at h9
      simp (maxSteps := 1000000) (disch := omega) only [push_cast, ↓wc_seq, ↓wc_condL, ↓wc_region, ↓wr_cons, ↓wr_nil, ↓wc_exit, ↓wc_ret, wo_some, opQ_eq, seqQ_normal, seqQ_exit, blockQ_exit, iterQ_exit, retQ_ret, pickC_false, Nat.reduceAdd, Nat.reduceMul, Nat.reduceLT, Nat.reduceEqDiff, ↓reduceIte, planIds, List.contains_cons, List.contains_nil, Nat.reduceBEq, setC, List.length_set, eq_self, Int.ofNat_lt, Nat.zero_add, planIds, List.contains_cons, List.contains_nil, Nat.reduceBEq, Nat.reduceMul, Nat.reduceAdd, ↓reduceIte, hal, h2, h9, h13, h14, Nat.lt_irrefl, Tryz.f105]
    obtain ⟨p, hp⟩ : ∃ p, ps[i]? = some p := ⟨ps[i], by simp⟩
    have hpm := List.mem_of_getElem? hp
    obtain ⟨r1, r2, r3⟩ := ok.2 p hpm
    by_cases ht : p.2 ≤ t
    · have hf : accF ps v t = false := by
        rw [accF, all_false (p := fun p => decide (t < p.2)) hp (decide_eq_false (by omega)), Bool.false_and]
      rw [hf]
      simp (maxSteps := 1000000) (disch := omega) only [push_cast, ↓wc_seq, ↓wc_block, ↓wc_condL, ↓wc_region, ↓wr_cons, ↓wr_nil, ↓wc_ret, ↓wc_skip, wo_some, opQ_eq, seqQ_normal, seqQ_ret, blockQ_ret, iterQ_ret, retQ_ret, pickC_true, Nat.reduceAdd, Nat.reduceMul, Nat.reduceLT, Nat.reduceEqDiff, ↓reduceIte, planIds, List.contains_cons, List.contains_nil, Nat.reduceBEq, setC, List.length_set, eq_self, Int.natCast_nonneg, Int.toNat_natCast, Int.ofNat_lt, Nat.zero_add, planIds, List.contains_cons, List.contains_nil, Nat.reduceBEq, Nat.reduceMul, Nat.reduceAdd, ↓reduceIte, hal, h1, h3, h12, h13, h14, hlt, hp, hk, ht, List.getElem?_map, Crv.enc, encZ, Tryz.f105]
    · have cp := Price_c (n := q) (by omega) p.1 r1.1 (left := p.2 - t) (by omega) (by omega) false T
      have b1 := costF_rng (t := t) (ps := ps.take i) (fun p' hp' => (ok.2 p' (List.mem_of_mem_take hp')).1)
      have b2 := priceF_rng r1 (p.2 - t)
      rw [List.length_take] at b1
      have hct := costF_take (t := t) hp
      simp (maxSteps := 1000000) (disch := omega) only [push_cast, ↓wc_seq, ↓wc_block, ↓wc_condL, ↓wc_region, ↓wr_cons, ↓wr_nil, ↓wo_callf, ↓wc_skip, wo_some, opQ_eq, seqQ_normal, blockQ_normal, iterQ_normal, pickC_true, pickC_false, Nat.reduceAdd, Nat.reduceMul, Nat.reduceLT, Nat.reduceEqDiff, ↓reduceIte, planIds, hasExt, cntFs, idxFs, clnFs, ovlFs, List.contains_cons, List.contains_nil, List.any_nil, Nat.reduceBEq, setC, List.length_set, eq_self, Int.natCast_nonneg, Int.toNat_natCast, Int.ofNat_lt, D.int.injEq, Option.some.injEq, Nat.zero_add, planIds, hasExt, cntFs, idxFs, clnFs, ovlFs, List.contains_cons, List.contains_nil, List.any_nil, Nat.reduceBEq, Nat.reduceMul, Nat.reduceAdd, ↓reduceIte, hal, h1, h2, h3, h9, h12, h13, h14, hlt, hp, hk, ht, cp, List.getElem?_map, Crv.enc, encZ, wrap_ok, Int.natCast_add, Int.natCast_one]
      refine ⟨hct.symm, fun j p' hj hj' => ?_⟩
      by_cases ej : j = i
      · subst ej
        rw [hp] at hj'
        cases hj'
        omega
      · exact hall j p' (by omega) hj'
  obtain ⟨_, U, ho, rfl, rfl⟩ := this
  exact callD_obsS rfl (by simp [pureL_cons, D.pure]) ho (ExtS.refl) rfl
/-- A loop that counts. -/
theorem cntF_stop (p : Nat → Bool) {i k : Nat} (h : ∀ j, j < i → p j = true) (hi : i ≤ k) : cntF p 0 k = cntF p i (k - i) := by
  induction i with
  | zero => rfl
  | succ i ih =>
    rw [ih (fun j hj => h j (by omega)) (by omega)]
    obtain ⟨m, hm⟩ : ∃ m, k - i = m + 1 := ⟨k - i - 1, by omega⟩
    rw [hm, cntF, if_pos (h i (by omega))]
    congr 1
    omega
set_option maxHeartbeats 4000000 in
set_option maxRecDepth 100000 in
theorem Seats_c {n kl : Nat} {S : List Ob} (hn : 1030 ≤ n) {ps : List (Crv × Int)} (ok : PsOk ps) (hne : ps ≠ []) {cu : D} (hcu : FLs 1 Crv.enc cu (ps.map (·.1))) (hk : S[kl]? = some (.row 1 ((ps.map (·.2)).map encZ))) (v most : Int) (st : Bool) :
    callD E (dcall E n) st S 66 [cu, .os kl 0 ps.length false, .int .i64 v, .int .i64 most] = some (.int .i64 (seatsF ps v most), S) := by
  obtain ⟨q, rfl⟩ : ∃ q, n = q + 1 := ⟨n - 1, by omega⟩
  have hl := ok.1
  have hpl : 0 < ps.length := List.length_pos_iff.2 hne
  have hpl' : ¬ (ps.length : Int) = 0 := by omega
  have : WO (dcall E (q + 1) 66 [cu, .os kl 0 ps.length false, .int .i64 v, .int .i64 most] S) fun r T => r = .int .i64 (seatsF ps v most) ∧ T = S := by
    refine wo_dcall Tryz.func66 rfl (by decide) rfl 34 rfl (fun a hal ha => ?_)
    have h0 : a[0]? = some (cu) := ha 0 (by simp)
    have h1 : a[1]? = some (.os kl 0 ps.length false) := ha 1 (by simp)
    have h2 : a[2]? = some (.int .i64 v) := ha 2 (by simp)
    have h3 : a[3]? = some (.int .i64 most) := ha 3 (by simp)
    clear ha
    have hcu' := hcu
    rcases hcu with ⟨rfl, e⟩ | ⟨x, rfl⟩
    · have e' : ps = [] := by simpa using e
      exact absurd e' hne
    generalize hcd : D.sl 1 ((ps.map (·.1)).map Crv.enc) x = cd at *
    have hcl : ((ps.map (·.1)).map Crv.enc).length = ps.length := by simp
    have hac := fun (t : Int) (t1 : 0 ≤ t) (t2 : t ≤ 1000) => accepted_c (n := q) (by omega) ok hcu' hk v t1 t2 false
    subst hcd
    simp (maxSteps := 1000000) (disch := omega) only [push_cast, ↓wc_seq, ↓wc_block, ↓wc_condL, ↓wc_region, ↓wr_cons, ↓wr_consgL, ↓wr_nil, ↓wo_pickL, ↓wc_skip, ↓wc_wl, wo_some, opQ_eq, seqQ_normal, pickC_false, pickO_false, gstep_ff, int_bne, int_beq, Nat.reduceAdd, Nat.reduceMul, Nat.reduceLT, Nat.reduceEqDiff, ↓reduceIte, planIds, List.contains_cons, List.contains_nil, Nat.reduceBEq, setC, List.length_set, reduceCtorEq, eq_self, Nat.zero_add, not_true_eq_false, planIds, List.contains_cons, List.contains_nil, Nat.reduceBEq, Nat.reduceMul, Nat.reduceAdd, ↓reduceIte, hal, h0, h1, List.length_map, hpl']
    have hK : (min most 999).toNat ≤ 999 := by omega
    refine wl_loop (fun i a T => T = S ∧ a.length = 34 ∧ a[0]? = some (.sl 1 ((ps.map (·.1)).map Crv.enc) x) ∧ a[1]? = some (.os kl 0 ps.length false) ∧ a[2]? = some (.int .i64 v) ∧ a[3]? = some (.int .i64 most) ∧ a[9]? = some (.int .i64 i) ∧ ∀ j, j < i → accF ps v j = true) (min most 999).toNat ?_ (by omega) ?_
    · simp (maxSteps := 1000000) (disch := omega) only [push_cast, Nat.reduceLT, Nat.reduceEqDiff, ↓reduceIte, setC, List.length_set, reduceCtorEq, eq_self, ↓reduceIte, hal, h0, h1, h2, h3, Int.natCast_zero]
      exact fun j hj => by omega
    clear hal h0 h1 h2 h3 a
    rintro i a T hi ⟨rfl, hal, h0, h1, h2, h3, h9, hall⟩
    have hstop := cntF_stop (fun n => accF ps v n) hall hi
    have hmm : (if (999 : Int) < most then 999 else most) = min most 999 := by
      split <;> omega
    rcases Nat.lt_or_eq_of_le hi with hlt | rfl
    case inr =>
      have hz : ¬ ((((min most 999).toNat : Nat) : Int) < min most 999) := by omega
      have hs : seatsF ps v most = (min most 999).toNat := by
        unfold seatsF
        rw [hstop, Nat.sub_self, cntF]
      rw [hs]
      simp (maxSteps := 1000000) (disch := omega) only [push_cast, ↓wc_seq, ↓wc_condL, ↓wc_region, ↓wr_cons, ↓wr_consgL, ↓wr_nil, ↓wo_pickL, ↓wc_exit, ↓wc_ret, wo_some, opQ_eq, seqQ_normal, seqQ_exit, blockQ_exit, iterQ_exit, retQ_ret, pickC_false, pickO_false, gstep_ft, Nat.reduceAdd, Nat.reduceMul, Nat.reduceLT, Nat.reduceEqDiff, ↓reduceIte, planIds, List.contains_cons, List.contains_nil, Nat.reduceBEq, setC, List.length_set, eq_self, Nat.zero_add, planIds, List.contains_cons, List.contains_nil, Nat.reduceBEq, Nat.reduceMul, Nat.reduceAdd, ↓reduceIte, hal, h3, h9, hmm, hz, Tryz.f66]
    have hz : (i : Int) < min most 999 := by omega
    have ca := hac i (by omega) (by omega)
    cases hb : accF ps v i
    · have hs : seatsF ps v most = i := by
        unfold seatsF
        rw [hstop]
        obtain ⟨m, hm⟩ : ∃ m, (min most 999).toNat - i = m + 1 := ⟨(min most 999).toNat - i - 1, by omega⟩
        rw [hm, cntF, if_neg (by rw [hb]; simp)]
      rw [hs]
      rw [hb] at ca
      simp (maxSteps := 1000000) (disch := omega) only [push_cast, ↓wc_seq, ↓wc_condL, ↓wc_region, ↓wr_cons, ↓wr_consgL, ↓wr_nil, ↓wo_pickL, ↓wo_callf, ↓wc_exit, ↓wc_ret, wo_some, opQ_eq, seqQ_normal, seqQ_exit, blockQ_exit, iterQ_exit, retQ_ret, pickC_false, pickO_true, gstep_tt, Nat.reduceAdd, Nat.reduceMul, Nat.reduceLT, Nat.reduceEqDiff, ↓reduceIte, planIds, hasExt, cntFs, idxFs, clnFs, ovlFs, List.contains_cons, List.contains_nil, List.any_nil, Nat.reduceBEq, setC, List.length_set, reduceCtorEq, eq_self, Nat.zero_add, planIds, hasExt, cntFs, idxFs, clnFs, ovlFs, List.contains_cons, List.contains_nil, List.any_nil, Nat.reduceBEq, Nat.reduceMul, Nat.reduceAdd, ↓reduceIte, hal, h0, h1, h2, h3, h9, hmm, hz, ca, Tryz.f66]
    · rw [hb] at ca
      simp (maxSteps := 1000000) (disch := omega) only [push_cast, ↓wc_seq, ↓wc_block, ↓wc_condL, ↓wc_region, ↓wr_cons, ↓wr_consgL, ↓wr_nil, ↓wo_pickL, ↓wo_callf, ↓wc_skip, wo_some, opQ_eq, seqQ_normal, blockQ_normal, iterQ_normal, pickC_true, pickO_true, gstep_tt, Nat.reduceAdd, Nat.reduceMul, Nat.reduceLT, Nat.reduceEqDiff, ↓reduceIte, planIds, hasExt, cntFs, idxFs, clnFs, ovlFs, List.contains_cons, List.contains_nil, List.any_nil, Nat.reduceBEq, setC, List.length_set, reduceCtorEq, eq_self, Nat.zero_add, planIds, hasExt, cntFs, idxFs, clnFs, ovlFs, List.contains_cons, List.contains_nil, List.any_nil, Nat.reduceBEq, Nat.reduceMul, Nat.reduceAdd, ↓reduceIte, hal, h0, h1, h2, h3, h9, hmm, hz, ca, wrap_ok, Int.natCast_add, Int.natCast_one]
      refine ⟨hlt, fun j hj => ?_⟩
      by_cases ej : j = i
      · subst ej; exact hb
      · exact hall j (by omega)
  obtain ⟨_, U, ho, rfl, rfl⟩ := this
  exact callD_obsS rfl (by simp [pureL_cons, D.pure]) ho (ExtS.refl) rfl
set_option linter.unusedSimpArgs false

theorem el_intG : elemT Tryz.prog 100 = some 3 := by kernel_rfl
theorem sz_intG : sizeT Tryz.prog 3 = some 1 := by kernel_rfl
theorem ze_intG : zeroT Tryz.prog 3 = some (.int .i64 0) := by kernel_rfl
theorem by_intG : bytesT Tryz.prog 3 ≤ 100000 := by
  have : bytesT Tryz.prog 3 = 8 := by kernel_rfl
  rw [this]; omega
theorem free_rng {s : Stk} (ok : StkOk 9999 s) (id : Lid) (cl : ByteArray) : 0 ≤ s.free id cl ∧ s.free id cl ≤ 10000 := by
  unfold Stk.free
  rcases e : s.get id with _ | x
  · simp
  have hok := ok.get e
  dsimp only
  unfold freeF
  rcases hpl : placeF cl 0 x.cfg.cabs with _ | ⟨a', b'⟩
  · simp
  obtain ⟨y, row, z, v, e1, e2, e3, e4, e5, e6, e7⟩ := hok.at_ hpl
  dsimp only
  rw [e1, e2]
  dsimp only
  have hrow := hok.rng (by omega) e2
  have hs := sum_le9 hrow row.length
  rw [List.take_length] at hs
  have hau := aut_le e7
  omega
def pairsF (s : Stk) (cs : List Crv) (ids : List Lid) (cl : ByteArray) : List (Crv × Int) := cs.zip (ids.map fun id => s.free id cl)
def bidF (s : Stk) (cs : List Crv) (ids : List Lid) (cl : ByteArray) (v : Int) : Int := if usF s ids = true ∧ cs.length = ids.length then seatsF (pairsF s cs ids cl) v (openF s ids cl) else 0
theorem zip_fst {α β : Type} : ∀ {l : List α} {m : List β}, l.length = m.length → (l.zip m).map (·.1) = l
  | [], _, _ => rfl
  | _ :: _, [], h => by cases h
  | a :: l, b :: m, h => by simp only [List.zip_cons_cons, List.map_cons, zip_fst (l := l) (m := m) (by simpa using h)]
theorem zip_snd {α β : Type} : ∀ {l : List α} {m : List β}, l.length = m.length → (l.zip m).map (·.2) = m
  | [], [], _ => rfl
  | [], _ :: _, h => by cases h
  | _ :: _, [], h => by cases h
  | a :: l, b :: m, h => by simp only [List.zip_cons_cons, List.map_cons, zip_snd (l := l) (m := m) (by simpa using h)]
section
variable {S : List Ob} {lab : Lab} {o k m n : Nat} {s : Stk} {ps : List (D × D)} {ids : List Lid} {cs : List Crv}
set_option maxHeartbeats 8000000 in
set_option maxRecDepth 100000 in
theorem Bid_c (hn : 1100 ≤ n) (h : StkAt S lab o kL (.loc k 0 0) s k m ps) (ok : StkOk 9999 s) (hl : ids.length ≤ 6) (hids : ∀ id ∈ ids, id.Ok) {di : D} (hdi : FLs 4 Lid.enc di ids) (hcs : cs.length ≤ 6) (hcr : ∀ c ∈ cs, RightI c.l) {cu : D} (hcu : FLs 1 Crv.enc cu cs) (cl : ByteArray) (v : Int) (st : Bool) :
    callD E (dcall E n) st S 24 [.loc k 0 0, cu, di, .str cl, .int .i64 v] = some (.int .i64 (bidF s cs ids cl v), S) := by
  obtain ⟨q, rfl⟩ : ∃ q, n = q + 1 := ⟨n - 1, by omega⟩
  have cus := usable_c (n := q) (by omega) h (by omega) hids hdi
  have : WO (dcall E (q + 1) 24 [.loc k 0 0, cu, di, .str cl, .int .i64 v] S) fun r T => r = .int .i64 (bidF s cs ids cl v) ∧ ExtS S T := by
    refine wo_dcall Tryz.func24 rfl (by decide) rfl 47 rfl (fun a hal ha => ?_)
    have h0 : a[0]? = some (.loc k 0 0) := ha 0 (by simp)
    have h1 : a[1]? = some (cu) := ha 1 (by simp)
    have h2 : a[2]? = some (di) := ha 2 (by simp)
    have h3 : a[3]? = some (.str cl) := ha 3 (by simp)
    have h4 : a[4]? = some (.int .i64 v) := ha 4 (by simp)
    clear ha
    unfold bidF
    cases hu : usF s ids
    · rw [hu] at cus
      rw [if_neg (by simp)]
      simp (maxSteps := 1000000) (disch := omega) only [push_cast, ↓wc_seq, ↓wc_condL, ↓wc_region, ↓wr_cons, ↓wr_consgL, ↓wr_nil, ↓wo_pickL, ↓wo_callf, ↓wc_ret, wo_some, opQ_eq, seqQ_normal, seqQ_ret, retQ_ret, pickC_true, pickO_true, gstep_tf, Nat.reduceAdd, Nat.reduceMul, Nat.reduceLT, Nat.reduceEqDiff, ↓reduceIte, planIds, hasExt, cntFs, idxFs, clnFs, ovlFs, List.contains_cons, List.contains_nil, List.any_nil, Nat.reduceBEq, setC, List.length_set, reduceCtorEq, eq_self, Nat.zero_add, planIds, hasExt, cntFs, idxFs, clnFs, ovlFs, List.contains_cons, List.contains_nil, List.any_nil, Nat.reduceBEq, Nat.reduceMul, Nat.reduceAdd, ↓reduceIte, hal, h0, h2, cus, dUn, Tryz.f24]
      exact ExtS.refl
    rw [hu] at cus
    have hne : ids ≠ [] := by
      rintro rfl
      simp [usF] at hu
    have hpos : 0 < ids.length := List.length_pos_iff.2 hne
    obtain ⟨x, rfl⟩ : ∃ x, di = .sl 4 (ids.map Lid.enc) x := by
      rcases hdi with ⟨-, e⟩ | h
      · exact absurd e hne
      · exact h
    by_cases hlen : cs.length = ids.length
    case neg =>
      rw [if_neg (by simp [hlen])]
      have hlen' : ¬ (cs.length : Int) = ids.length := by omega
      rcases hcu with ⟨rfl, rfl⟩ | ⟨x', rfl⟩
      · simp only [List.length_nil, Int.natCast_zero] at hlen'
        simp (maxSteps := 1000000) (disch := omega) only [push_cast, ↓wc_seq, ↓wc_condL, ↓wc_region, ↓wr_cons, ↓wr_consgL, ↓wr_nil, ↓wo_pickL, ↓wo_callf, ↓wc_ret, wo_some, opQ_eq, seqQ_normal, seqQ_ret, retQ_ret, pickC_true, pickO_false, gstep_ff, int_bne, Nat.reduceAdd, Nat.reduceMul, Nat.reduceLT, Nat.reduceEqDiff, ↓reduceIte, planIds, hasExt, cntFs, idxFs, clnFs, ovlFs, List.contains_cons, List.contains_nil, List.any_nil, Nat.reduceBEq, setC, List.length_set, reduceCtorEq, eq_self, Nat.zero_add, not_false_eq_true, planIds, hasExt, cntFs, idxFs, clnFs, ovlFs, List.contains_cons, List.contains_nil, List.any_nil, Nat.reduceBEq, Nat.reduceMul, Nat.reduceAdd, ↓reduceIte, hal, h0, h1, h2, cus, dUn, List.length_map, hlen', not_false_eq_true, Tryz.f24]
        exact ExtS.refl
      · simp (maxSteps := 1000000) (disch := omega) only [push_cast, ↓wc_seq, ↓wc_condL, ↓wc_region, ↓wr_cons, ↓wr_consgL, ↓wr_nil, ↓wo_pickL, ↓wo_callf, ↓wc_ret, wo_some, opQ_eq, seqQ_normal, seqQ_ret, retQ_ret, pickC_true, pickO_false, gstep_ff, int_bne, Nat.reduceAdd, Nat.reduceMul, Nat.reduceLT, Nat.reduceEqDiff, ↓reduceIte, planIds, hasExt, cntFs, idxFs, clnFs, ovlFs, List.contains_cons, List.contains_nil, List.any_nil, Nat.reduceBEq, setC, List.length_set, reduceCtorEq, eq_self, Nat.zero_add, not_false_eq_true, planIds, hasExt, cntFs, idxFs, clnFs, ovlFs, List.contains_cons, List.contains_nil, List.any_nil, Nat.reduceBEq, Nat.reduceMul, Nat.reduceAdd, ↓reduceIte, hal, h0, h1, h2, cus, dUn, List.length_map, hlen', not_false_eq_true, Tryz.f24]
        exact ExtS.refl
    rw [if_pos ⟨rfl, hlen⟩]
    have hcu' := hcu
    obtain ⟨x', rfl⟩ : ∃ x, cu = .sl 1 (cs.map Crv.enc) x := by
      rcases hcu with ⟨-, e⟩ | h
      · rw [e] at hlen; simp only [List.length_nil] at hlen; omega
      · exact h
    have hlen' : (cs.length : Int) = ids.length := by omega
    have e0 : (decide (¬ (cs.length : Int) = ids.length)) = false := by simp [hlen']
    simp (maxSteps := 1000000) (disch := omega) only [push_cast, ↓wc_seq, ↓wc_block, ↓wc_condL, ↓wc_region, ↓wr_cons, ↓wr_consgL, ↓wr_nil, ↓wo_pickL, ↓wo_callf, ↓wc_skip, ↓wc_wl, wo_some, opQ_eq, seqQ_normal, pickC_false, pickO_false, gstep_ff, int_bne, Nat.reduceAdd, Nat.reduceMul, Nat.reduceLT, Nat.reduceEqDiff, ↓reduceIte, planIds, hasExt, cntFs, idxFs, clnFs, ovlFs, List.contains_cons, List.contains_nil, List.any_nil, Nat.reduceBEq, setC, List.length_set, reduceCtorEq, eq_self, Nat.zero_add, not_true_eq_false, planIds, hasExt, cntFs, idxFs, clnFs, ovlFs, List.contains_cons, List.contains_nil, List.any_nil, Nat.reduceBEq, Nat.reduceMul, Nat.reduceAdd, ↓reduceIte, hal, h0, h1, h2, cus, dUn, List.length_map, hlen', not_true_eq_false]
    refine wl_loop (fun i a T => a.length = 47 ∧ a[0]? = some (.loc k 0 0) ∧ a[1]? = some (.sl 1 (cs.map Crv.enc) x') ∧ a[2]? = some (.sl 4 (ids.map Lid.enc) x) ∧ a[3]? = some (.str cl) ∧ a[4]? = some (.int .i64 v) ∧ a[25]? = some (.sl 4 (ids.map Lid.enc) x) ∧ a[26]? = some (.int .i64 ids.length) ∧ a[27]? = some (.int .i64 i) ∧ ExtS S T ∧ ∃ d, a[11]? = some d ∧ GL 1 encZ T d ((ids.take i).map fun id => s.free id cl) ∧ ∀ k n, d = .os k 0 n false → S.length ≤ k) ids.length ?_ (by omega) ?_
    · simp (maxSteps := 1000000) (disch := omega) only [push_cast, Nat.reduceLT, Nat.reduceEqDiff, ↓reduceIte, setC, List.length_set, reduceCtorEq, eq_self, Option.some.injEq, ↓reduceIte, hal, h0, h1, h2, h3, h4, Int.natCast_zero, List.take_zero]
      exact ⟨ExtS.refl, _, rfl, GL.nil, fun k n h => by cases h⟩
    clear hal h0 h1 h2 h3 h4 a
    rintro i a T hi ⟨hal, h0, h1, h2, h3, h4, h25, h26, h27, hx, d, h11, hg, hd⟩
    rcases Nat.lt_or_eq_of_le hi with hlt | rfl
    case inr =>
      rw [List.take_length] at hg
      have hpf : (pairsF s cs ids cl).map (·.1) = cs := zip_fst (by simp [hlen])
      have hps : (pairsF s cs ids cl).map (·.2) = ids.map fun id => s.free id cl := zip_snd (by simp [hlen])
      have hpl : (pairsF s cs ids cl).length = ids.length := by unfold pairsF; rw [List.length_zip, List.length_map, hlen, Nat.min_self]
      have hT := h.keep (KeepO.ext hx)
      have co := OOpen_c (n := q) (by omega) hT ok (by omega) hids hdi cl
      obtain ⟨kl, rfl, hk⟩ : ∃ kl, d = .os kl 0 ids.length false ∧ T[kl]? = some (.row 1 ((ids.map fun id => s.free id cl).map encZ)) := by
        rcases hg with ⟨-, e⟩ | ⟨kl, e, hk⟩
        · exact absurd (by simpa using e) hne
        · rw [List.length_map] at e
          exact ⟨kl, e, hk⟩
      have cse := Seats_c (n := q) (by omega) (S := T) (kl := kl) (ps := pairsF s cs ids cl) ⟨by omega, fun p hp => ⟨hcr _ (by rw [← hpf]; exact List.mem_map_of_mem hp), by
          have hm : p.2 ∈ (pairsF s cs ids cl).map (·.2) := List.mem_map_of_mem hp
          rw [hps] at hm
          obtain ⟨id, -, e⟩ := List.mem_map.1 hm
          have := free_rng ok id cl
          omega⟩⟩ (by intro e; rw [e] at hpl; simp only [List.length_nil] at hpl; omega) (by rw [hpf]; exact hcu') (by rw [hps]; exact hk) v (openF s ids cl)
      rw [hpl] at cse
      simp (maxSteps := 1000000) (disch := omega) only [push_cast, ↓wc_seq, ↓wc_condL, ↓wc_region, ↓wr_cons, ↓wr_nil, ↓wo_callf, ↓wc_exit, ↓wc_ret, wo_some, opQ_eq, seqQ_normal, seqQ_exit, blockQ_exit, iterQ_exit, retQ_ret, pickC_false, Nat.reduceAdd, Nat.reduceMul, Nat.reduceLT, Nat.reduceEqDiff, ↓reduceIte, planIds, hasExt, cntFs, idxFs, clnFs, ovlFs, List.contains_cons, List.contains_nil, List.any_nil, Nat.reduceBEq, setC, List.length_set, reduceCtorEq, eq_self, Int.ofNat_lt, Nat.zero_add, planIds, hasExt, cntFs, idxFs, clnFs, ovlFs, List.contains_cons, List.contains_nil, List.any_nil, Nat.reduceBEq, Nat.reduceMul, Nat.reduceAdd, ↓reduceIte, hal, h0, h1, h2, h3, h4, h11, h26, h27, Nat.lt_irrefl, co, cse, Tryz.f24]
      exact hx
    obtain ⟨id, hid⟩ : ∃ id, ids[i]? = some id := ⟨ids[i], by simp⟩
    have hidm := List.mem_of_getElem? hid
    have hT := (h.keep (KeepO.ext hx)).push [.row 4 [id.enc]]
    have cf := Free_c (n := q) (by omega) hT ok (hids id hidm) cl
    obtain ⟨T', ha, hg', hlen2, hkeep, hrw⟩ := app_gl el_intG sz_intG ze_intG rfl by_intG (hg.push (Ob.row 4 [id.enc])) (by rw [List.length_map, List.length_take]; omega) (s.free id cl)
    have hee : encZ (s.free id cl) = [.int .i64 (s.free id cl)] := rfl
    rw [hee] at ha
    have hst : ((ids.take i).map fun id => s.free id cl) ++ [s.free id cl] = (ids.take (i + 1)).map fun id => s.free id cl := by rw [List.take_add_one, hid]; simp
    have hti : ((ids.take i).map fun id => s.free id cl).length = i := by rw [List.length_map, List.length_take]; omega
    rw [hst, hti] at hg'
    rw [hti] at ha
    simp only [Lid.enc] at cf ha hlen2 hkeep
    simp (maxSteps := 1000000) (disch := omega) only [push_cast, ↓wc_seq, ↓wc_block, ↓wc_condL, ↓wc_region, ↓wr_cons, ↓wr_nil, ↓wo_callf, ↓wc_skip, wo_some, opQ_eq, seqQ_normal, blockQ_normal, iterQ_normal, pickC_true, Nat.reduceAdd, Nat.reduceMul, Nat.reducePow, Nat.reduceLT, Nat.reduceLeDiff, Nat.reduceEqDiff, ↓wo_buildSlice, evParts, ↓reduceIte, planIds, hasExt, cntFs, idxFs, clnFs, ovlFs, List.contains_cons, List.contains_nil, List.any_nil, Nat.reduceBEq, setC, List.length_set, reduceCtorEq, eq_self, Int.natCast_nonneg, Int.toNat_natCast, Int.ofNat_lt, Option.some.injEq, Nat.zero_add, planIds, hasExt, cntFs, idxFs, clnFs, ovlFs, List.contains_cons, List.contains_nil, List.any_nil, Nat.reduceBEq, Nat.reduceMul, Nat.reduceAdd, ↓reduceIte, hal, h0, h1, h2, h3, h4, h11, h25, h26, h27, hlt, hid, set_end, get_end, cf, ha, List.getElem?_map, Lid.enc, wrap_ok, Int.natCast_add, Int.natCast_one]
    refine ⟨fun j o hj => hkeep j o (fun n e => ?_) (get_old (hx j o hj)), _, rfl, hg', fun k n e => ?_⟩
    · have := hd _ _ e
      have := lt_of_get hj
      omega
    · injection e with e1
      have := hx.len
      rw [← e1, List.length_append]
      omega
  obtain ⟨_, U, ho, rfl, hx⟩ := this
  exact callD_obsS rfl (by simp [pureL_cons, D.pure]) ho hx rfl
end
set_option linter.unusedSimpArgs false

def okAt (l : List Int) (i : Nat) : Bool := decide (0 ≤ l.getD i 0) && decide (l.getD i 0 ≤ 1099511627776) && (decide (i = 0) || decide (l.getD i 0 ≤ l.getD (i - 1) 0))
def rightV (l : List Int) : Bool := (List.range l.length).all (okAt l)
theorem rightV_false {l : List Int} {i : Nat} (hi : i < l.length) (h : okAt l i = false) : rightV l = false := List.all_eq_false.2 ⟨i, List.mem_range.2 hi, by rw [h]; simp⟩
theorem rightV_rng {l : List Int} (h : rightV l = true) : ∀ v ∈ l, 0 ≤ v ∧ v ≤ 1099511627776 := fun v hv => by
  obtain ⟨i, hi⟩ := List.mem_iff_getElem?.1 hv
  have := List.all_eq_true.1 h i (List.mem_range.2 (lt_of_get hi))
  simp only [okAt, List.getD_eq_getElem?_getD, hi, Option.getD_some, Bool.and_eq_true, decide_eq_true_eq] at this
  exact this.1
set_option maxHeartbeats 8000000 in
set_option maxRecDepth 100000 in
theorem cRight_c {n : Nat} (hn : 70 ≤ n) (c : Crv) (hc : c.l.length ≤ 60) (st : Bool) (S : List Ob) :
    callD E (dcall E n) st S 65 [c.d] = some (.bool (rightV c.l), S) := by
  obtain ⟨q, rfl⟩ : ∃ q, n = q + 1 := ⟨n - 1, by omega⟩
  obtain ⟨d, l, ok⟩ := c
  dsimp only at *
  have hp : d.pure = true := ok.pure (zs_pure l)
  have : WO (dcall E (q + 1) 65 [d] []) fun r T => r = .bool (rightV l) := by
    refine wo_dcall Tryz.func65 rfl (by decide) rfl 41 rfl (fun a hal ha => ?_)
    have h0 : a[0]? = some (d) := ha 0 (by simp)
    clear ha
    rcases ok with ⟨rfl, rfl⟩ | ⟨x, rfl⟩
    · simp (maxSteps := 1000000) (disch := omega) only [push_cast, ↓wc_seq, ↓wc_block, ↓wc_region, ↓wr_cons, ↓wr_nil, ↓wc_wl, wo_some, opQ_eq, seqQ_normal, Nat.reduceAdd, Nat.reduceMul, ↓reduceIte, planIds, List.contains_cons, List.contains_nil, Nat.reduceBEq, Nat.zero_add, planIds, List.contains_cons, List.contains_nil, Nat.reduceBEq, Nat.reduceMul, Nat.reduceAdd, ↓reduceIte]
      refine wl_loop (fun i a T => i = 0 ∧ a.length = 41 ∧ a[0]? = some (.nils) ∧ a[3]? = some (.int .i64 0)) 0 ?_ (by omega) ?_
      · simp (maxSteps := 1000000) (disch := omega) only [push_cast, Nat.reduceLT, ↓reduceIte, setC, List.length_set, reduceCtorEq, eq_self, ↓reduceIte, hal, h0]
      clear hal h0 a
      rintro i a T _ ⟨rfl, hal, h0, h3⟩
      simp (maxSteps := 1000000) (disch := omega) only [push_cast, ↓wc_seq, ↓wc_condL, ↓wc_region, ↓wr_cons, ↓wr_nil, ↓wc_exit, ↓wc_ret, wo_some, opQ_eq, seqQ_normal, seqQ_exit, blockQ_exit, iterQ_exit, retQ_ret, pickC_false, Nat.reduceAdd, Nat.reduceMul, Nat.reduceLT, Nat.reduceEqDiff, Int.reduceLE, ↓reduceIte, planIds, List.contains_cons, List.contains_nil, Nat.reduceBEq, setC, List.length_set, reduceCtorEq, eq_self, Nat.zero_add, planIds, List.contains_cons, List.contains_nil, Nat.reduceBEq, Nat.reduceMul, Nat.reduceAdd, ↓reduceIte, hal, h0, h3, Int.lt_irrefl, Tryz.f65]
      rfl
    simp (maxSteps := 1000000) (disch := omega) only [push_cast, ↓wc_seq, ↓wc_block, ↓wc_region, ↓wr_cons, ↓wr_nil, ↓wc_wl, wo_some, opQ_eq, seqQ_normal, Nat.reduceAdd, Nat.reduceMul, ↓reduceIte, planIds, List.contains_cons, List.contains_nil, Nat.reduceBEq, Nat.zero_add, planIds, List.contains_cons, List.contains_nil, Nat.reduceBEq, Nat.reduceMul, Nat.reduceAdd, ↓reduceIte]
    refine wl_loop (fun i a T => a.length = 41 ∧ a[0]? = some (.sl 1 (l.map encZ) x) ∧ a[3]? = some (.int .i64 i) ∧ ∀ j, j < i → okAt l j = true) l.length ?_ (by omega) ?_
    · simp (maxSteps := 1000000) (disch := omega) only [push_cast, Nat.reduceLT, ↓reduceIte, setC, List.length_set, reduceCtorEq, eq_self, ↓reduceIte, hal, h0, Int.natCast_zero]
      exact fun j hj => by omega
    clear hal h0 a
    rintro i a T hi ⟨hal, h0, h3, hall⟩
    rcases Nat.lt_or_eq_of_le hi with hlt | rfl
    case inr =>
      have hb : rightV l = true := List.all_eq_true.2 fun j hj => hall j (List.mem_range.1 hj)
      have h9 : (l.length : Int) ≤ 999 := by omega
      rw [hb]
      simp (maxSteps := 1000000) (disch := omega) only [push_cast, ↓wc_seq, ↓wc_condL, ↓wc_region, ↓wr_cons, ↓wr_nil, ↓wc_exit, ↓wc_ret, wo_some, opQ_eq, seqQ_normal, seqQ_exit, blockQ_exit, iterQ_exit, retQ_ret, pickC_false, Nat.reduceAdd, Nat.reduceMul, Nat.reduceLT, Nat.reduceEqDiff, ↓reduceIte, planIds, List.contains_cons, List.contains_nil, Nat.reduceBEq, setC, List.length_set, reduceCtorEq, eq_self, Int.ofNat_lt, Nat.zero_add, planIds, List.contains_cons, List.contains_nil, Nat.reduceBEq, Nat.reduceMul, Nat.reduceAdd, ↓reduceIte, hal, h0, h3, Nat.lt_irrefl, List.length_map, h9, Tryz.f65]
    obtain ⟨v, hv⟩ : ∃ v, l[i]? = some v := ⟨l[i], by simp⟩
    have hlc : (i : Int) < l.length := by omega
    by_cases b1 : v < 0
    · have hf : okAt l i = false := by simp [okAt, List.getD_eq_getElem?_getD, hv]; omega
      rw [rightV_false hlt hf]
      simp (maxSteps := 1000000) (disch := omega) only [push_cast, ↓wc_seq, ↓wc_block, ↓wc_condL, ↓wc_region, ↓wr_cons, ↓wr_consgL, ↓wr_nil, ↓wo_pickL, ↓wc_ret, ↓wc_skip, wo_some, opQ_eq, seqQ_normal, seqQ_ret, blockQ_ret, iterQ_ret, retQ_ret, pickC_true, pickO_true, gstep_tf, gstep_skip, Nat.reduceAdd, Nat.reduceMul, Nat.reduceLT, Nat.reduceEqDiff, ↓reduceIte, planIds, List.contains_cons, List.contains_nil, Nat.reduceBEq, setC, List.length_set, reduceCtorEq, eq_self, Int.natCast_nonneg, Int.toNat_natCast, Nat.zero_add, planIds, List.contains_cons, List.contains_nil, Nat.reduceBEq, Nat.reduceMul, Nat.reduceAdd, ↓reduceIte, hal, h0, h3, hlc, hv, b1, List.length_map, List.getElem?_map, encZ, Tryz.f65]
    by_cases b2 : 1099511627776 < v
    · have hf : okAt l i = false := by simp [okAt, List.getD_eq_getElem?_getD, hv]; omega
      rw [rightV_false hlt hf]
      simp (maxSteps := 1000000) (disch := omega) only [push_cast, ↓wc_seq, ↓wc_block, ↓wc_condL, ↓wc_region, ↓wr_cons, ↓wr_consgL, ↓wr_nil, ↓wo_pickL, ↓wc_ret, ↓wc_skip, wo_some, opQ_eq, seqQ_normal, seqQ_ret, blockQ_ret, iterQ_ret, retQ_ret, pickC_true, pickO_true, pickO_false, gstep_ff, gstep_tf, gstep_skip, Nat.reduceAdd, Nat.reduceMul, Nat.reduceLT, Nat.reduceEqDiff, ↓reduceIte, planIds, List.contains_cons, List.contains_nil, Nat.reduceBEq, setC, List.length_set, reduceCtorEq, eq_self, Int.natCast_nonneg, Int.toNat_natCast, Nat.zero_add, gt_iff_lt, planIds, List.contains_cons, List.contains_nil, Nat.reduceBEq, Nat.reduceMul, Nat.reduceAdd, ↓reduceIte, hal, h0, h3, hlc, hv, b1, b2, List.length_map, List.getElem?_map, encZ, gt_iff_lt, Tryz.f65]
    rcases i with _ | i
    · have hlz : (0 : Int) < l.length := by omega
      simp (maxSteps := 1000000) (disch := omega) only [push_cast, ↓wc_seq, ↓wc_block, ↓wc_condL, ↓wc_region, ↓wr_cons, ↓wr_consgL, ↓wr_nil, ↓wo_pickL, ↓wc_skip, wo_some, opQ_eq, seqQ_normal, blockQ_normal, iterQ_normal, pickC_true, pickC_false, pickO_false, gstep_ff, gstep_ft, Nat.reduceAdd, Nat.reduceMul, Nat.reduceLT, Nat.reduceEqDiff, Int.reduceAdd, Int.reduceLE, ↓reduceIte, planIds, List.contains_cons, List.contains_nil, Nat.reduceBEq, setC, List.length_set, reduceCtorEq, eq_self, Nat.zero_add, gt_iff_lt, planIds, List.contains_cons, List.contains_nil, Nat.reduceBEq, Nat.reduceMul, Nat.reduceAdd, ↓reduceIte, hal, h0, h3, hlt, hlz, hv, b1, b2, List.length_map, List.getElem?_map, encZ, gt_iff_lt, wrap_ok, Int.natCast_one, Int.natCast_zero, Int.lt_irrefl]
      intro j hj
      obtain rfl : j = 0 := by omega
      simp [okAt, List.getD_eq_getElem?_getD, hv]; omega
    obtain ⟨w, hw⟩ : ∃ w, l[i]? = some w := ⟨l[i], by simp⟩
    have hp1 : (0 : Int) < (i : Int) + 1 := by omega
    have hsb : (i : Int) + 1 - 1 = i := by omega
    have hli : i < l.length := by omega
    have hls : (i : Int) + 1 < l.length := by omega
    have hz1 : (0 : Int) ≤ (i : Int) + 1 := by omega
    have hnt : ((i : Int) + 1).toNat = i + 1 := by omega
    by_cases b3 : w < v
    · have hf : okAt l (i + 1) = false := by simp [okAt, List.getD_eq_getElem?_getD, hv, hw]; omega
      rw [rightV_false hlt hf]
      simp (maxSteps := 1000000) (disch := omega) only [push_cast, ↓wc_seq, ↓wc_block, ↓wc_condL, ↓wc_region, ↓wr_cons, ↓wr_consgL, ↓wr_nil, ↓wo_pickL, ↓wc_ret, ↓wc_skip, wo_some, opQ_eq, seqQ_normal, seqQ_ret, blockQ_ret, iterQ_ret, retQ_ret, pickC_true, pickO_true, pickO_false, gstep_tt, gstep_ff, Nat.reduceAdd, Nat.reduceMul, Nat.reduceLT, Nat.reduceEqDiff, ↓reduceIte, planIds, List.contains_cons, List.contains_nil, Nat.reduceBEq, setC, List.length_set, reduceCtorEq, eq_self, Int.natCast_nonneg, Int.toNat_natCast, Nat.zero_add, gt_iff_lt, planIds, List.contains_cons, List.contains_nil, Nat.reduceBEq, Nat.reduceMul, Nat.reduceAdd, ↓reduceIte, hal, h0, h3, hv, hw, hls, hz1, hnt, b1, b2, b3, hp1, hsb, List.length_map, List.getElem?_map, encZ, gt_iff_lt, wrap_ok, Int.natCast_add, Int.natCast_one, Tryz.f65]
    · simp (maxSteps := 1000000) (disch := omega) only [push_cast, ↓wc_seq, ↓wc_block, ↓wc_condL, ↓wc_region, ↓wr_cons, ↓wr_consgL, ↓wr_nil, ↓wo_pickL, ↓wc_skip, wo_some, opQ_eq, seqQ_normal, blockQ_normal, iterQ_normal, pickC_true, pickC_false, pickO_true, pickO_false, gstep_tt, gstep_ff, Nat.reduceAdd, Nat.reduceMul, Nat.reduceLT, Nat.reduceEqDiff, ↓reduceIte, planIds, List.contains_cons, List.contains_nil, Nat.reduceBEq, setC, List.length_set, reduceCtorEq, eq_self, Int.natCast_nonneg, Int.toNat_natCast, Nat.zero_add, gt_iff_lt, planIds, List.contains_cons, List.contains_nil, Nat.reduceBEq, Nat.reduceMul, Nat.reduceAdd, ↓reduceIte, hal, h0, h3, hlt, hv, hw, hls, hz1, hnt, b1, b2, b3, hp1, hsb, List.length_map, List.getElem?_map, encZ, gt_iff_lt, wrap_ok, Int.natCast_add, Int.natCast_one]
      intro j hj
      by_cases ej : j = i + 1
      · subst ej
        simp [okAt, List.getD_eq_getElem?_getD, hv, hw]; omega
      · exact hall j (by omega)
  obtain ⟨_, U, ho, rfl⟩ := this
  exact callD_pure rfl (by simp [pureL_cons, pureL_nil, hp]) ho rfl
def crvB (c : Crv) : Bool := decide (c.l.length ≤ 60) && rightV c.l
def rightB18 (cs : List Crv) (v : Int) : Bool := decide (cs.length ≤ 6) && decide (0 ≤ v) && decide (v ≤ 1099511627776) && cs.all crvB
theorem crvs_pure (cs : List Crv) : pureLL (cs.map Crv.enc) = true := by
  induction cs with
  | nil => rfl
  | cons c cs ih =>
    have : c.d.pure = true := c.ok.pure (zs_pure c.l)
    rw [List.map_cons, pureLL_cons, ih]; simp [Crv.enc, pureL, this]
set_option maxHeartbeats 8000000 in
set_option maxRecDepth 100000 in
theorem right18_c {n : Nat} (hn : 90 ≤ n) {cs : List Crv} {cu : D} (hcu : FLs 1 Crv.enc cu cs) (v : Int) (st : Bool) (S : List Ob) :
    callD E (dcall E n) st S 23 [cu, .int .i64 v] = some (.bool (rightB18 cs v), S) := by
  obtain ⟨q, rfl⟩ : ∃ q, n = q + 1 := ⟨n - 1, by omega⟩
  have hp : cu.pure = true := hcu.pure (crvs_pure cs)
  have : WO (dcall E (q + 1) 23 [cu, .int .i64 v] []) fun r T => r = .bool (rightB18 cs v) := by
    refine wo_dcall Tryz.func23 rfl (by decide) rfl 37 rfl (fun a hal ha => ?_)
    have h0 : a[0]? = some (cu) := ha 0 (by simp)
    have h1 : a[1]? = some (.int .i64 v) := ha 1 (by simp)
    clear ha
    unfold rightB18
    rcases hcu with ⟨rfl, rfl⟩ | ⟨x, rfl⟩
    · by_cases b1 : v < 0
      · have e : decide (0 ≤ v) = false := decide_eq_false (by omega)
        rw [e]
        simp (maxSteps := 1000000) (disch := omega) only [push_cast, ↓wc_seq, ↓wc_condL, ↓wc_region, ↓wr_cons, ↓wr_consgL, ↓wr_nil, ↓wo_pickL, ↓wc_ret, wo_some, opQ_eq, seqQ_normal, seqQ_ret, retQ_ret, pickC_true, pickO_true, pickO_false, gstep_ff, gstep_tf, Nat.reduceAdd, Nat.reduceMul, Nat.reduceLT, Nat.reduceLeDiff, Nat.reduceEqDiff, Int.reduceLT, ↓reduceIte, planIds, List.contains_cons, List.contains_nil, Nat.reduceBEq, setC, List.length_set, reduceCtorEq, eq_self, Nat.zero_add, gt_iff_lt, planIds, List.contains_cons, List.contains_nil, Nat.reduceBEq, Nat.reduceMul, Nat.reduceAdd, ↓reduceIte, hal, h0, h1, b1, gt_iff_lt, Bool.and_false, Bool.false_and, Tryz.f23]
      by_cases b2 : 1099511627776 < v
      · have e : decide (v ≤ 1099511627776) = false := decide_eq_false (by omega)
        rw [e]
        simp (maxSteps := 1000000) (disch := omega) only [push_cast, ↓wc_seq, ↓wc_condL, ↓wc_region, ↓wr_cons, ↓wr_consgL, ↓wr_nil, ↓wo_pickL, ↓wc_ret, wo_some, opQ_eq, seqQ_normal, seqQ_ret, retQ_ret, pickC_true, pickO_false, gstep_ff, Nat.reduceAdd, Nat.reduceMul, Nat.reduceLT, Nat.reduceLeDiff, Nat.reduceEqDiff, Int.reduceLT, ↓reduceIte, planIds, List.contains_cons, List.contains_nil, Nat.reduceBEq, setC, List.length_set, reduceCtorEq, eq_self, Nat.zero_add, gt_iff_lt, planIds, List.contains_cons, List.contains_nil, Nat.reduceBEq, Nat.reduceMul, Nat.reduceAdd, ↓reduceIte, hal, h0, h1, b1, b2, gt_iff_lt, Bool.and_false, Bool.false_and, Tryz.f23]
      have e1 : decide (0 ≤ v) = true := decide_eq_true (by omega)
      have e2 : decide (v ≤ 1099511627776) = true := decide_eq_true (by omega)
      rw [e1, e2]
      simp (maxSteps := 1000000) (disch := omega) only [push_cast, ↓wc_seq, ↓wc_block, ↓wc_condL, ↓wc_region, ↓wr_cons, ↓wr_consgL, ↓wr_nil, ↓wo_pickL, ↓wc_skip, ↓wc_wl, wo_some, opQ_eq, seqQ_normal, pickC_false, pickO_false, gstep_ff, Nat.reduceAdd, Nat.reduceMul, Nat.reduceLT, Nat.reduceLeDiff, Nat.reduceEqDiff, Int.reduceLT, ↓reduceIte, planIds, List.contains_cons, List.contains_nil, Nat.reduceBEq, setC, List.length_set, reduceCtorEq, eq_self, Nat.zero_add, gt_iff_lt, planIds, List.contains_cons, List.contains_nil, Nat.reduceBEq, Nat.reduceMul, Nat.reduceAdd, ↓reduceIte, hal, h0, h1, b1, b2, gt_iff_lt]
      refine wl_loop (fun i a T => i = 0 ∧ a.length = 37 ∧ a[0]? = some (.nils) ∧ a[5]? = some (.int .i64 0)) 0 ?_ (by omega) ?_
      · simp (maxSteps := 1000000) (disch := omega) only [push_cast, Nat.reduceLT, ↓reduceIte, setC, List.length_set, reduceCtorEq, eq_self, ↓reduceIte, hal, h0]
      clear hal h0 h1 a
      rintro i a T _ ⟨rfl, hal, h0, h5⟩
      simp (maxSteps := 1000000) (disch := omega) only [push_cast, ↓wc_seq, ↓wc_condL, ↓wc_region, ↓wr_cons, ↓wr_nil, ↓wc_exit, ↓wc_ret, wo_some, opQ_eq, seqQ_normal, seqQ_exit, blockQ_exit, iterQ_exit, retQ_ret, pickC_false, Nat.reduceAdd, Nat.reduceMul, Nat.reduceLT, Nat.reduceEqDiff, ↓reduceIte, planIds, List.contains_cons, List.contains_nil, Nat.reduceBEq, setC, List.length_set, reduceCtorEq, eq_self, Nat.zero_add, planIds, List.contains_cons, List.contains_nil, Nat.reduceBEq, Nat.reduceMul, Nat.reduceAdd, ↓reduceIte, hal, h0, h5, Int.lt_irrefl, Tryz.f23]
    by_cases b0 : 6 < cs.length
    · have e : decide (cs.length ≤ 6) = false := decide_eq_false (by omega)
      have b0' : (6 : Int) < cs.length := by omega
      rw [e]
      simp (maxSteps := 1000000) (disch := omega) only [push_cast, ↓wc_seq, ↓wc_condL, ↓wc_region, ↓wr_cons, ↓wr_consgL, ↓wr_nil, ↓wo_pickL, ↓wc_ret, wo_some, opQ_eq, seqQ_normal, seqQ_ret, retQ_ret, pickC_true, pickO_true, gstep_tf, Nat.reduceAdd, Nat.reduceMul, Nat.reduceLT, Nat.reduceEqDiff, ↓reduceIte, planIds, List.contains_cons, List.contains_nil, Nat.reduceBEq, setC, List.length_set, reduceCtorEq, eq_self, Nat.zero_add, gt_iff_lt, planIds, List.contains_cons, List.contains_nil, Nat.reduceBEq, Nat.reduceMul, Nat.reduceAdd, ↓reduceIte, hal, h0, b0', gt_iff_lt, List.length_map, Bool.and_false, Bool.false_and, Tryz.f23]
    have b0' : ¬ (6 : Int) < cs.length := by omega
    have e0 : decide (cs.length ≤ 6) = true := decide_eq_true (by omega)
    by_cases b1 : v < 0
    · have e : decide (0 ≤ v) = false := decide_eq_false (by omega)
      rw [e]
      simp (maxSteps := 1000000) (disch := omega) only [push_cast, ↓wc_seq, ↓wc_condL, ↓wc_region, ↓wr_cons, ↓wr_consgL, ↓wr_nil, ↓wo_pickL, ↓wc_ret, wo_some, opQ_eq, seqQ_normal, seqQ_ret, retQ_ret, pickC_true, pickO_true, pickO_false, gstep_ff, gstep_tf, Nat.reduceAdd, Nat.reduceMul, Nat.reduceLT, Nat.reduceEqDiff, ↓reduceIte, planIds, List.contains_cons, List.contains_nil, Nat.reduceBEq, setC, List.length_set, reduceCtorEq, eq_self, Nat.zero_add, gt_iff_lt, planIds, List.contains_cons, List.contains_nil, Nat.reduceBEq, Nat.reduceMul, Nat.reduceAdd, ↓reduceIte, hal, h0, h1, b0', b1, gt_iff_lt, List.length_map, Bool.and_false, Bool.false_and, Tryz.f23]
    by_cases b2 : 1099511627776 < v
    · have e : decide (v ≤ 1099511627776) = false := decide_eq_false (by omega)
      rw [e]
      simp (maxSteps := 1000000) (disch := omega) only [push_cast, ↓wc_seq, ↓wc_condL, ↓wc_region, ↓wr_cons, ↓wr_consgL, ↓wr_nil, ↓wo_pickL, ↓wc_ret, wo_some, opQ_eq, seqQ_normal, seqQ_ret, retQ_ret, pickC_true, pickO_false, gstep_ff, Nat.reduceAdd, Nat.reduceMul, Nat.reduceLT, Nat.reduceEqDiff, ↓reduceIte, planIds, List.contains_cons, List.contains_nil, Nat.reduceBEq, setC, List.length_set, reduceCtorEq, eq_self, Nat.zero_add, gt_iff_lt, planIds, List.contains_cons, List.contains_nil, Nat.reduceBEq, Nat.reduceMul, Nat.reduceAdd, ↓reduceIte, hal, h0, h1, b0', b1, b2, gt_iff_lt, List.length_map, Bool.and_false, Bool.false_and, Tryz.f23]
    have e1 : decide (0 ≤ v) = true := decide_eq_true (by omega)
    have e2 : decide (v ≤ 1099511627776) = true := decide_eq_true (by omega)
    rw [e0, e1, e2, Bool.true_and, Bool.true_and, Bool.true_and]
    simp (maxSteps := 1000000) (disch := omega) only [push_cast, ↓wc_seq, ↓wc_block, ↓wc_condL, ↓wc_region, ↓wr_cons, ↓wr_consgL, ↓wr_nil, ↓wo_pickL, ↓wc_skip, ↓wc_wl, wo_some, opQ_eq, seqQ_normal, pickC_false, pickO_false, gstep_ff, Nat.reduceAdd, Nat.reduceMul, Nat.reduceLT, Nat.reduceEqDiff, ↓reduceIte, planIds, List.contains_cons, List.contains_nil, Nat.reduceBEq, setC, List.length_set, reduceCtorEq, eq_self, Nat.zero_add, gt_iff_lt, planIds, List.contains_cons, List.contains_nil, Nat.reduceBEq, Nat.reduceMul, Nat.reduceAdd, ↓reduceIte, hal, h0, h1, b0', b1, b2, gt_iff_lt, List.length_map]
    refine wl_loop (fun i a T => a.length = 37 ∧ a[0]? = some (.sl 1 (cs.map Crv.enc) x) ∧ a[5]? = some (.int .i64 i) ∧ ∀ j c, j < i → cs[j]? = some c → crvB c = true) cs.length ?_ (by omega) ?_
    · simp (maxSteps := 1000000) (disch := omega) only [push_cast, Nat.reduceLT, ↓reduceIte, setC, List.length_set, reduceCtorEq, eq_self, ↓reduceIte, hal, h0, Int.natCast_zero]
      exact fun j c hj => by omega
    clear hal h0 h1 a
    rintro i a T hi ⟨hal, h0, h5, hall⟩
    rcases Nat.lt_or_eq_of_le hi with hlt | rfl
    case inr =>
      have hb : cs.all crvB = true := List.all_eq_true.2 fun c hc => by
        obtain ⟨j, hj⟩ := List.mem_iff_getElem?.1 hc
        exact hall j c (lt_of_get hj) hj
      rw [hb]
      simp (maxSteps := 1000000) (disch := omega) only [push_cast, ↓wc_seq, ↓wc_condL, ↓wc_region, ↓wr_cons, ↓wr_nil, ↓wc_exit, ↓wc_ret, wo_some, opQ_eq, seqQ_normal, seqQ_exit, blockQ_exit, iterQ_exit, retQ_ret, pickC_false, Nat.reduceAdd, Nat.reduceMul, Nat.reduceLT, Nat.reduceEqDiff, ↓reduceIte, planIds, List.contains_cons, List.contains_nil, Nat.reduceBEq, setC, List.length_set, reduceCtorEq, eq_self, Nat.zero_add, planIds, List.contains_cons, List.contains_nil, Nat.reduceBEq, Nat.reduceMul, Nat.reduceAdd, ↓reduceIte, hal, h0, h5, Int.lt_irrefl, List.length_map, Tryz.f23]
    have hlc : (i : Int) < cs.length := by omega
    obtain ⟨c, hc⟩ : ∃ c, cs[i]? = some c := ⟨cs[i], by simp⟩
    have cr := cRight_c (n := q) (by omega) c
    obtain ⟨cd, cl, cok⟩ := c
    have hfin : ∀ b, crvB ⟨cd, cl, cok⟩ = b → (b = false → cs.all crvB = false) := fun b h hb => all_false (p := crvB) hc (by rw [h, hb])
    dsimp only at cr
    have key : crvB ⟨cd, cl, cok⟩ = (decide (cl.length ≤ 60) && rightV cl) := rfl
    by_cases b3 : 60 < cl.length
    · have b3' : (60 : Int) < cl.length := by omega
      rw [hfin false (by rw [key, decide_eq_false (by omega), Bool.false_and]) rfl]
      rcases cok with ⟨rfl, rfl⟩ | ⟨y, rfl⟩
      · simp at b3
      simp (maxSteps := 1000000) (disch := omega) only [push_cast, ↓wc_seq, ↓wc_block, ↓wc_condL, ↓wc_region, ↓wr_cons, ↓wr_consgL, ↓wr_nil, ↓wo_pickL, ↓wc_ret, ↓wc_skip, wo_some, opQ_eq, seqQ_normal, seqQ_ret, blockQ_ret, iterQ_ret, retQ_ret, pickC_true, pickO_true, gstep_tf, Nat.reduceAdd, Nat.reduceMul, Nat.reduceLT, Nat.reduceEqDiff, ↓reduceIte, planIds, List.contains_cons, List.contains_nil, Nat.reduceBEq, setC, List.length_set, reduceCtorEq, eq_self, Int.natCast_nonneg, Int.toNat_natCast, Nat.zero_add, gt_iff_lt, planIds, List.contains_cons, List.contains_nil, Nat.reduceBEq, Nat.reduceMul, Nat.reduceAdd, ↓reduceIte, hal, h0, h5, hlc, hc, b3', gt_iff_lt, List.length_map, List.getElem?_map, Crv.enc, Tryz.f23]
    have b3' : ¬ (60 : Int) < cl.length := by omega
    have cr' := cr (by omega)
    cases hr : rightV cl
    · rw [hr] at cr'
      rw [hfin false (by rw [key, hr, Bool.and_false]) rfl]
      rcases cok with ⟨rfl, rfl⟩ | ⟨y, rfl⟩
      · simp (maxSteps := 1000000) (disch := omega) only [push_cast, ↓wc_seq, ↓wc_block, ↓wc_condL, ↓wc_region, ↓wr_cons, ↓wr_consgL, ↓wr_nil, ↓wo_pickL, ↓wo_callf, ↓wc_ret, ↓wc_skip, wo_some, opQ_eq, seqQ_normal, seqQ_ret, blockQ_ret, iterQ_ret, retQ_ret, pickC_true, pickO_false, gstep_ff, Nat.reduceAdd, Nat.reduceMul, Nat.reduceLT, Nat.reduceEqDiff, Int.reduceLT, ↓reduceIte, planIds, hasExt, cntFs, idxFs, clnFs, ovlFs, List.contains_cons, List.contains_nil, List.any_nil, Nat.reduceBEq, setC, List.length_set, reduceCtorEq, eq_self, Int.natCast_nonneg, Int.toNat_natCast, Nat.zero_add, gt_iff_lt, planIds, hasExt, cntFs, idxFs, clnFs, ovlFs, List.contains_cons, List.contains_nil, List.any_nil, Nat.reduceBEq, Nat.reduceMul, Nat.reduceAdd, ↓reduceIte, hal, h0, h5, hlc, hc, cr', dUn, gt_iff_lt, List.length_map, List.getElem?_map, Crv.enc, Tryz.f23]
      · simp (maxSteps := 1000000) (disch := omega) only [push_cast, ↓wc_seq, ↓wc_block, ↓wc_condL, ↓wc_region, ↓wr_cons, ↓wr_consgL, ↓wr_nil, ↓wo_pickL, ↓wo_callf, ↓wc_ret, ↓wc_skip, wo_some, opQ_eq, seqQ_normal, seqQ_ret, blockQ_ret, iterQ_ret, retQ_ret, pickC_true, pickO_false, gstep_ff, Nat.reduceAdd, Nat.reduceMul, Nat.reduceLT, Nat.reduceEqDiff, ↓reduceIte, planIds, hasExt, cntFs, idxFs, clnFs, ovlFs, List.contains_cons, List.contains_nil, List.any_nil, Nat.reduceBEq, setC, List.length_set, reduceCtorEq, eq_self, Int.natCast_nonneg, Int.toNat_natCast, Nat.zero_add, gt_iff_lt, planIds, hasExt, cntFs, idxFs, clnFs, ovlFs, List.contains_cons, List.contains_nil, List.any_nil, Nat.reduceBEq, Nat.reduceMul, Nat.reduceAdd, ↓reduceIte, hal, h0, h5, hlc, hc, b3', cr', dUn, gt_iff_lt, List.length_map, List.getElem?_map, Crv.enc, Tryz.f23]
    · rw [hr] at cr'
      have hb : crvB ⟨cd, cl, cok⟩ = true := by rw [key, hr, decide_eq_true (by omega)]; rfl
      have hnext : ∀ j c, j < i + 1 → cs[j]? = some c → crvB c = true := fun j c' hj hj' => by
        by_cases ej : j = i
        · subst ej
          rw [hc] at hj'
          cases hj'
          exact hb
        · exact hall j c' (by omega) hj'
      rcases cok with ⟨rfl, rfl⟩ | ⟨y, rfl⟩
      · simp (maxSteps := 1000000) (disch := omega) only [push_cast, ↓wc_seq, ↓wc_block, ↓wc_condL, ↓wc_region, ↓wr_cons, ↓wr_consgL, ↓wr_nil, ↓wo_pickL, ↓wo_callf, ↓wc_skip, wo_some, opQ_eq, seqQ_normal, blockQ_normal, iterQ_normal, pickC_true, pickC_false, pickO_false, gstep_ff, Nat.reduceAdd, Nat.reduceMul, Nat.reduceLT, Nat.reduceEqDiff, Int.reduceLT, ↓reduceIte, planIds, hasExt, cntFs, idxFs, clnFs, ovlFs, List.contains_cons, List.contains_nil, List.any_nil, Nat.reduceBEq, setC, List.length_set, reduceCtorEq, eq_self, Int.natCast_nonneg, Int.toNat_natCast, Nat.zero_add, gt_iff_lt, planIds, hasExt, cntFs, idxFs, clnFs, ovlFs, List.contains_cons, List.contains_nil, List.any_nil, Nat.reduceBEq, Nat.reduceMul, Nat.reduceAdd, ↓reduceIte, hal, h0, h5, hlt, hlc, hc, cr', dUn, gt_iff_lt, List.length_map, List.getElem?_map, Crv.enc, wrap_ok, Int.natCast_add, Int.natCast_one]
        exact hnext
      · simp (maxSteps := 1000000) (disch := omega) only [push_cast, ↓wc_seq, ↓wc_block, ↓wc_condL, ↓wc_region, ↓wr_cons, ↓wr_consgL, ↓wr_nil, ↓wo_pickL, ↓wo_callf, ↓wc_skip, wo_some, opQ_eq, seqQ_normal, blockQ_normal, iterQ_normal, pickC_true, pickC_false, pickO_false, gstep_ff, Nat.reduceAdd, Nat.reduceMul, Nat.reduceLT, Nat.reduceEqDiff, ↓reduceIte, planIds, hasExt, cntFs, idxFs, clnFs, ovlFs, List.contains_cons, List.contains_nil, List.any_nil, Nat.reduceBEq, setC, List.length_set, reduceCtorEq, eq_self, Int.natCast_nonneg, Int.toNat_natCast, Nat.zero_add, gt_iff_lt, planIds, hasExt, cntFs, idxFs, clnFs, ovlFs, List.contains_cons, List.contains_nil, List.any_nil, Nat.reduceBEq, Nat.reduceMul, Nat.reduceAdd, ↓reduceIte, hal, h0, h5, hlt, hlc, hc, b3', cr', dUn, gt_iff_lt, List.length_map, List.getElem?_map, Crv.enc, wrap_ok, Int.natCast_add, Int.natCast_one]
        exact hnext
  obtain ⟨_, U, ho, rfl⟩ := this
  exact callD_pure rfl (by simp [pureL_cons, pureL_nil, D.pure, hp]) ho rfl

/-! ### Legs -/
def encU (k : Nat) : List D := [.int .u8 k]
theorem us_pure (l : List Nat) : pureLL (l.map encU) = true := by
  induction l with
  | nil => rfl
  | cons f fs ih => rw [List.map_cons, pureLL_cons, ih]; rfl
def legsF (l : List Nat) : List Lid := (l.take 6).map idF
theorem el_lid : elemT Tryz.prog 32 = some 60 := by kernel_rfl
theorem sz_lid : sizeT Tryz.prog 60 = some 4 := by kernel_rfl
theorem ze_lid : zeroT Tryz.prog 60 = some (.agg [.str (ByteArray.mk #[]), .int .i64 0, .int .i64 0, .str (ByteArray.mk #[])]) := by kernel_rfl
theorem by_lid : bytesT Tryz.prog 60 ≤ 100000 := of_decide_eq_true (by kernel_rfl)
set_option maxHeartbeats 8000000 in
set_option maxRecDepth 100000 in
theorem legs_c {n : Nat} (hn : 60 ≤ n) {l : List Nat} {d : D} (hd : FLs 1 encU d l) (hk : ∀ k ∈ l, k ≤ 255) : ∃ d', FLs 4 Lid.enc d' (legsF l) ∧ ∀ st S, callD E (dcall E n) st S 17 [d] = some (d', S) := by
  obtain ⟨q, rfl⟩ : ∃ q, n = q + 1 := ⟨n - 1, by omega⟩
  have hp : d.pure = true := hd.pure (us_pure l)
  have : WO (dcall E (q + 1) 17 [d] []) fun r T => GL 4 Lid.enc T r (legsF l) := by
    refine wo_dcall Tryz.func17 rfl (by decide) rfl 24 rfl (fun a hal ha => ?_)
    have h0 : a[0]? = some (d) := ha 0 (by simp)
    clear ha
    rcases hd with ⟨rfl, rfl⟩ | ⟨x, rfl⟩
    · simp (maxSteps := 1000000) (disch := omega) only [push_cast, ↓wc_seq, ↓wc_block, ↓wc_region, ↓wr_cons, ↓wr_nil, ↓wc_wl, wo_some, opQ_eq, seqQ_normal, Nat.reduceAdd, Nat.reduceMul, ↓reduceIte, planIds, List.contains_cons, List.contains_nil, Nat.reduceBEq, Nat.zero_add, planIds, List.contains_cons, List.contains_nil, Nat.reduceBEq, Nat.reduceMul, Nat.reduceAdd, ↓reduceIte]
      refine wl_loop (fun i a T => i = 0 ∧ a.length = 24 ∧ a[0]? = some (.nils) ∧ a[3]? = some (.nils) ∧ a[4]? = some (.int .i64 0)) 0 ?_ (by omega) ?_
      · simp (maxSteps := 1000000) (disch := omega) only [push_cast, Nat.reduceLT, Nat.reduceEqDiff, ↓reduceIte, setC, List.length_set, reduceCtorEq, eq_self, ↓reduceIte, hal, h0]
      clear hal h0 a
      rintro i a T _ ⟨rfl, hal, h0, h3, h4⟩
      simp (maxSteps := 1000000) (disch := omega) only [push_cast, ↓wc_seq, ↓wc_condL, ↓wc_region, ↓wr_cons, ↓wr_consgL, ↓wr_nil, ↓wo_pickL, ↓wc_exit, ↓wc_ret, wo_some, opQ_eq, seqQ_normal, seqQ_exit, blockQ_exit, iterQ_exit, retQ_ret, pickC_false, pickO_false, gstep_ft, Nat.reduceAdd, Nat.reduceMul, Nat.reduceLT, Nat.reduceEqDiff, ↓reduceIte, planIds, List.contains_cons, List.contains_nil, Nat.reduceBEq, setC, List.length_set, reduceCtorEq, eq_self, Nat.zero_add, planIds, List.contains_cons, List.contains_nil, Nat.reduceBEq, Nat.reduceMul, Nat.reduceAdd, ↓reduceIte, hal, h0, h3, h4, Int.lt_irrefl, Tryz.f17]
      exact GL.nil
    simp (maxSteps := 1000000) (disch := omega) only [push_cast, ↓wc_seq, ↓wc_block, ↓wc_region, ↓wr_cons, ↓wr_nil, ↓wc_wl, wo_some, opQ_eq, seqQ_normal, Nat.reduceAdd, Nat.reduceMul, ↓reduceIte, planIds, List.contains_cons, List.contains_nil, Nat.reduceBEq, Nat.zero_add, planIds, List.contains_cons, List.contains_nil, Nat.reduceBEq, Nat.reduceMul, Nat.reduceAdd, ↓reduceIte]
    refine wl_loop (fun i a T => a.length = 24 ∧ a[0]? = some (.sl 1 (l.map encU) x) ∧ a[4]? = some (.int .i64 i) ∧ ∃ d, a[3]? = some d ∧ GL 4 Lid.enc T d ((l.take i).map idF)) (min l.length 6) ?_ (by omega) ?_
    · simp (maxSteps := 1000000) (disch := omega) only [push_cast, Nat.reduceLT, Nat.reduceEqDiff, ↓reduceIte, setC, List.length_set, reduceCtorEq, eq_self, Option.some.injEq, ↓reduceIte, hal, h0, Int.natCast_zero, List.take_zero, List.map_nil]
      exact ⟨_, rfl, GL.nil⟩
    clear hal h0 a
    rintro i a T hi ⟨hal, h0, h4, d, h3, hg⟩
    by_cases hlt : i < l.length
    case neg =>
      have hil : i = l.length := by omega
      subst hil
      have he : legsF l = (l.take l.length).map idF := by unfold legsF; rw [List.take_length, List.take_of_length_le (by omega)]
      rw [he]
      simp (maxSteps := 1000000) (disch := omega) only [push_cast, ↓wc_seq, ↓wc_condL, ↓wc_region, ↓wr_cons, ↓wr_consgL, ↓wr_nil, ↓wo_pickL, ↓wc_exit, ↓wc_ret, wo_some, opQ_eq, seqQ_normal, seqQ_exit, blockQ_exit, iterQ_exit, retQ_ret, pickC_false, pickO_false, gstep_ft, Nat.reduceAdd, Nat.reduceMul, Nat.reduceLT, Nat.reduceEqDiff, ↓reduceIte, planIds, List.contains_cons, List.contains_nil, Nat.reduceBEq, setC, List.length_set, reduceCtorEq, eq_self, Nat.zero_add, planIds, List.contains_cons, List.contains_nil, Nat.reduceBEq, Nat.reduceMul, Nat.reduceAdd, ↓reduceIte, hal, h0, h3, h4, Int.lt_irrefl, List.length_map, Tryz.f17]
      exact hg
    have hlc : (i : Int) < l.length := by omega
    by_cases h7 : i = 6
    · subst h7
      have hlc6 : (6 : Int) < l.length := by omega
      simp (maxSteps := 1000000) (disch := omega) only [push_cast, ↓wc_seq, ↓wc_condL, ↓wc_region, ↓wr_cons, ↓wr_consgL, ↓wr_nil, ↓wo_pickL, ↓wc_exit, ↓wc_ret, wo_some, opQ_eq, seqQ_normal, seqQ_exit, blockQ_exit, iterQ_exit, retQ_ret, pickC_false, pickO_true, gstep_tt, Nat.reduceAdd, Nat.reduceMul, Nat.reduceLT, Nat.reduceEqDiff, ↓reduceIte, planIds, List.contains_cons, List.contains_nil, Nat.reduceBEq, setC, List.length_set, reduceCtorEq, eq_self, Nat.zero_add, planIds, List.contains_cons, List.contains_nil, Nat.reduceBEq, Nat.reduceMul, Nat.reduceAdd, ↓reduceIte, hal, h0, h3, h4, hlc6, Int.lt_irrefl, List.length_map, Int.cast_ofNat_Int, Tryz.f17]
      exact hg
    have h7' : (i : Int) < 6 := by omega
    have hi6 : i < min l.length 6 := by omega
    obtain ⟨k, hkk⟩ : ∃ k, l[i]? = some k := ⟨l[i], by simp⟩
    have ci := Id_c (n := q) (k := k) (by omega) (hk k (List.mem_of_getElem? hkk))
    obtain ⟨T', ha, hg', hlen2, hkeep, hrw⟩ := app_gl el_lid sz_lid ze_lid rfl by_lid hg (by rw [List.length_map, List.length_take]; omega) (idF k)
    have hst : (l.take i).map idF ++ [idF k] = (l.take (i + 1)).map idF := by rw [List.take_add_one, hkk]; simp
    have hti : ((l.take i).map idF).length = i := by rw [List.length_map, List.length_take]; omega
    rw [hst, hti] at hg'
    rw [hti] at ha
    simp only [Lid.enc] at ci ha
    simp (maxSteps := 1000000) (disch := omega) only [push_cast, ↓wc_seq, ↓wc_block, ↓wc_condL, ↓wc_region, ↓wr_cons, ↓wr_consgL, ↓wr_nil, ↓wo_pickL, ↓wo_callf, ↓wc_skip, wo_some, opQ_eq, seqQ_normal, blockQ_normal, iterQ_normal, pickC_true, pickO_true, gstep_tt, Nat.reduceAdd, Nat.reduceMul, Nat.reducePow, Nat.reduceLT, Nat.reduceLeDiff, Nat.reduceEqDiff, ↓wo_buildSlice, evParts, ↓reduceIte, planIds, hasExt, cntFs, idxFs, clnFs, ovlFs, List.contains_cons, List.contains_nil, List.any_nil, Nat.reduceBEq, setC, List.length_set, reduceCtorEq, eq_self, Int.natCast_nonneg, Int.toNat_natCast, Option.some.injEq, Nat.zero_add, planIds, hasExt, cntFs, idxFs, clnFs, ovlFs, List.contains_cons, List.contains_nil, List.any_nil, Nat.reduceBEq, Nat.reduceMul, Nat.reduceAdd, ↓reduceIte, hal, h0, h3, h4, hlc, h7', hkk, ci, ha, List.getElem?_map, encU, List.length_map, wrap_ok, Int.natCast_add, Int.natCast_one]
    exact ⟨hi6, _, rfl, hg'⟩
  obtain ⟨r, U, ho, hg⟩ := this
  obtain ⟨d', h1, h2⟩ := hg.fls (Lids_pure _)
  exact ⟨d', h2, fun st S => callD_pure rfl (by simp [pureL_cons, pureL_nil, hp]) ho h1⟩
end Go.Proofs.YtlamgjbngblefaaGreatDoor.Dm
