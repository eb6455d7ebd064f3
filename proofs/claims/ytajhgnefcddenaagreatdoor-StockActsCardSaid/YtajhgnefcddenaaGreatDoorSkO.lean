/-
  The machine at the program's inventory: what does not change it.
-/
import Derived.Test.YtajhgnefcddenaaGreatDoorSkR
namespace Go.Proofs.YtajhgnefcddenaaGreatDoor.Dm
open Go Gw
set_option linter.unusedSimpArgs false
set_option linter.unusedSimpArgs false

/-! ### Keys and pointers -/
theorem lit_ok {n : Int} (h : -9223372036854775808 ≤ n ∧ n ≤ 9223372036854775807) : (Lit.int .i64 n).wf = true := by
  unfold Lit.wf
  rw [Bool.and_eq_true, decide_eq_true_eq, decide_eq_true_eq]
  exact h
set_option maxRecDepth 100000 in
theorem keyOk_lid {id : Lid} (h : id.Ok) : keyOk Tryz.prog 50 (.agg id.enc) = true := by
  obtain ⟨c, n, d, f⟩ := id
  obtain ⟨h1, h2, h3, h4, -⟩ := h
  have hk : Tryz.prog.keyType 50 = true := by kernel_rfl
  have z0 : Tryz.prog.cellsOf 50 = 4 := by kernel_rfl
  have z1 : Tryz.prog.cellsOf 9 = 1 := by kernel_rfl
  have z2 : Tryz.prog.cellsOf 3 = 1 := by kernel_rfl
  have m1 : c.size ≤ maxLen := by simp only [maxLen]; exact h1
  have m4 : f.size ≤ maxLen := by simp only [maxLen]; exact h4
  have w2 := lit_ok h2
  have w3 := lit_ok h3
  obtain ⟨q, hq⟩ : ∃ q, Tryz.prog.types.size + 1 = q + 1 + 1 := by
    have : Nat.ble 1 Tryz.prog.types.size = true := by kernel_rfl
    have := Nat.le_of_ble_eq_true this
    exact ⟨Tryz.prog.types.size - 1, by omega⟩
  unfold keyOk
  simp only [litV, Lid.enc, litCs, litC, Option.map_some]
  unfold keyOf
  rw [Tryz.underlying50]
  dsimp only
  rw [hk, hq]
  simp [Value.formed, Tryz.underlying50, z0, Program.keyLits, Value.cells, Tryz.underlying9, Tryz.underlying3, z1, z2, m1, m4, w2, w3]
set_option maxRecDepth 100000 in
theorem eq_lid (a b : Lid) : dEq Tryz.prog 10000 50 (.agg a.enc) (.agg b.enc) = some (decide (a = b)) := by
  obtain ⟨c, n, d, f⟩ := a
  obtain ⟨c', n', d', f'⟩ := b
  rw [show (10000 : Nat) = 9998 + 1 + 1 from rfl]
  have hs : Tryz.prog.stoodInHeld 50 = false := by kernel_rfl
  simp only [Lid.mk.injEq]
  by_cases e1 : c = c' <;> by_cases e2 : n = n' <;> by_cases e3 : d = d' <;> by_cases e4 : f = f' <;> simp (decide := true) only [push_cast, Lid.enc, dEq, dEqs, beq_self_eq_true, bytes_refl, hs, str_eq', e1, e2, e3, e4, int_beq, decide_false, decide_true]
theorem plain_lid : plainEqT Tryz.prog 50 = true := by kernel_rfl
theorem keys_lid : E.keys 50 = true := by kernel_rfl
/-- A pointer against nil. -/
theorem eqp_loc {k i o : Nat} {t e : TypeId} {P : Program} (ht : P.underlying t = some (.pointer e)) : dEq P 10000 t (.loc k i o) .nilp = some false := by
  rw [show (10000 : Nat) = 9999 + 1 from rfl]
  simp only [dEq, ht]
theorem eqp_nil {t e : TypeId} {P : Program} (ht : P.underlying t = some (.pointer e)) : dEq P 10000 t .nilp .nilp = some true := by
  rw [show (10000 : Nat) = 9999 + 1 from rfl]
  simp only [dEq, ht]
theorem eqm_map {k : Nat} {t a b : TypeId} {P : Program} (ht : P.underlying t = some (.map a b)) : dEq P 10000 t (.map k) .nilm = some false := by
  rw [show (10000 : Nat) = 9999 + 1 from rfl]
  simp only [dEq, ht]
theorem eqp_stk {k i o : Nat} : dEq Tryz.prog 10000 26 (.loc k i o) .nilp = some false := eqp_loc Tryz.underlying26
theorem eqp_leg {k i o : Nat} : dEq Tryz.prog 10000 116 (.loc k i o) .nilp = some false := eqp_loc Tryz.underlying116
theorem eqp_leg0 : dEq Tryz.prog 10000 116 .nilp .nilp = some true := eqp_nil Tryz.underlying116
theorem eqm_legs {k : Nat} : dEq Tryz.prog 10000 90 (.map k) .nilm = some false := eqm_map Tryz.underlying90
section
variable {S : List Ob} {lab : Lab} {o k m n : Nat} {c0 : D} {ps : List (D × D)}
theorem made_c (hn : 1 ≤ n) (hk : S[k]? = some (.row 2 [[c0, .map m]])) (st : Bool) : callD E (dcall E n) st S 81 [.loc k 0 0] = some (.bool true, S) := by
  obtain ⟨q, rfl⟩ : ∃ q, n = q + 1 := ⟨n - 1, by omega⟩
  have : WO (dcall E (q + 1) 81 [.loc k 0 0] S) fun d T => d = .bool true ∧ T = S := by
    refine wo_dcall Tryz.func81 rfl (by decide) rfl 12 rfl (fun a hal ha => ?_)
    have h0 : a[0]? = some (.loc k 0 0) := ha 0 (by simp)
    clear ha
    simp (maxSteps := 1000000) (disch := omega) only [push_cast, ↓wc_seq, ↓wc_region, ↓wr_cons, ↓wr_consgL, ↓wr_nil, ↓wo_pickL, ↓wc_ret, wo_some, opQ_eq, seqQ_normal, retQ_ret, pickO_true, gstep_tt, Nat.reduceAdd, Nat.reduceMul, Nat.reduceLT, Nat.reduceEqDiff, ↓reduceIte, planIds, List.contains_cons, List.contains_nil, Nat.reduceBEq, setC, List.length_set, reduceCtorEq, eq_self, Nat.zero_add, hal, h0, hk, eqp_stk, eqm_legs, Tryz.f81]
  obtain ⟨d, T, ho, rfl, rfl⟩ := this
  exact callD_obs rfl rfl ho rfl
theorem get_c (hn : 2 ≤ n) (hk : S[k]? = some (.row 2 [[c0, .map m]])) (hm : S[m]? = some (.map 50 ps)) {id : Lid} (hid : id.Ok) :
    callD E (dcall E n) false S 56 [.loc k 0 0, .agg id.enc] = some ((lookM ps (.agg id.enc)).getD .nilp, S ++ [.row 4 [id.enc]]) := by
  obtain ⟨q, rfl⟩ : ∃ q, n = q + 1 := ⟨n - 1, by omega⟩
  have hkx : (S ++ [Ob.row 4 [id.enc]])[k]? = some (.row 2 [[c0, .map m]]) := get_old hk
  have hmx : (S ++ [Ob.row 4 [id.enc]])[m]? = some (.map 50 ps) := get_old hm
  have cm := made_c (n := q) (by omega) hkx
  have kl := keyOk_lid hid
  have ks := keys_lid
  have : WO (dcall E (q + 1) 56 [.loc k 0 0, .agg id.enc] S) fun d T => d = (lookM ps (.agg id.enc)).getD .nilp ∧ T = S ++ [.row 4 [id.enc]] := by
    refine wo_dcall Tryz.func56 rfl (by decide) rfl 14 rfl (fun a hal ha => ?_)
    have h0 : a[0]? = some (.loc k 0 0) := ha 0 (by simp)
    have h1 : a[1]? = some (.agg id.enc) := ha 1 (by simp)
    clear ha
    simp only [Lid.enc] at h1 hkx hmx cm kl
    generalize hv : lookM ps (.agg id.enc) = v
    simp only [Lid.enc] at hv ⊢
    rcases v with _ | v
    · simp (maxSteps := 1000000) (disch := omega) only [push_cast, ↓wc_seq, ↓wc_condL, ↓wc_region, ↓wr_cons, ↓wr_nil, ↓wo_callf, ↓wc_ret, ↓wc_skip, wo_some, opQ_eq, seqQ_normal, retQ_ret, pickC_false, Nat.reduceAdd, Nat.reduceMul, Nat.reduceLT, Nat.reduceLeDiff, Nat.reduceEqDiff, ↓reduceIte, planIds, hasExt, cntFs, idxFs, clnFs, ovlFs, List.contains_cons, List.contains_nil, List.any_cons, List.any_nil, Nat.reduceBEq, setC, List.length_set, reduceCtorEq, eq_self, Nat.zero_add, hal, h0, h1, hkx, hmx, cm, kl, ks, hv, dUn, get_end, Tryz.f56]
    · simp (maxSteps := 1000000) (disch := omega) only [push_cast, ↓wc_seq, ↓wc_condL, ↓wc_region, ↓wr_cons, ↓wr_nil, ↓wo_callf, ↓wc_ret, ↓wc_skip, wo_some, opQ_eq, seqQ_normal, retQ_ret, pickC_false, Nat.reduceAdd, Nat.reduceMul, Nat.reduceLT, Nat.reduceLeDiff, Nat.reduceEqDiff, ↓reduceIte, planIds, hasExt, cntFs, idxFs, clnFs, ovlFs, List.contains_cons, List.contains_nil, List.any_cons, List.any_nil, Nat.reduceBEq, setC, List.length_set, reduceCtorEq, eq_self, Nat.zero_add, hal, h0, h1, hkx, hmx, cm, kl, ks, hv, dUn, get_end, Tryz.f56]
  obtain ⟨d, T, ho, rfl, rfl⟩ := this
  exact (callD_own rfl rfl).trans ho
end

/-! ### A leg -/
theorem LegOk.rng {l : List Cfg} {B : Int} {x : Leg} (h : LegOk l B x) (hB : B ≤ 9999) {i : Nat} {r : List Int} (hr : x.sold[i]? = some r) : rngI r := fun v hv => by
  obtain ⟨h1, h2⟩ := h.row hr
  obtain ⟨k, hk⟩ := List.mem_iff_getElem?.1 hv
  have := sum_at h1 hk
  have := h1 v hv
  omega
theorem LegAt.parts {S : List Ob} {lab : Lab} {o i p : Nat} {x : Leg} (h : LegAt S lab o i p x) : ∃ q es, S[p]? = some (.row 4 [[.str x.cfg.equip, .sl 4 (x.cfg.cabs.map Cab.enc) x.cfg.cabsx, .os q 0 x.sold.length false, .bool x.closed]]) ∧ S[q]? = some (.row 1 es) ∧ lab q = [o, 2, i] ∧
    ∀ (j : Nat) (row : List Int), x.sold[j]? = some row → ∃ r, es[j]? = some [.os r 0 row.length false] ∧ lab r = [o, 3, i, j] ∧ S[r]? = some (.row 1 (row.map encZ)) := by
  obtain ⟨-, d, h1, q, r, es, rfl, h2, h3, h4, h5⟩ := h
  exact ⟨q, es, h1, h3, h2, fun j row hj => ⟨r j, h5 j row hj⟩⟩
section
variable {S : List Ob} {lab : Lab} {o i p n : Nat} {x : Leg} {l : List Cfg}
set_option maxHeartbeats 4000000 in
set_option maxRecDepth 100000 in
theorem left_c (hn : 170 ≤ n) (h : LegAt S lab o i p x) (ok : LegOk l 9999 x) (cl : ByteArray) (st : Bool) : callD E (dcall E n) st S 57 [.loc p 0 0, .str cl] = some (.int .i64 (leftF x cl), S) := by
  obtain ⟨m, rfl⟩ : ∃ m, n = m + 1 := ⟨n - 1, by omega⟩
  obtain ⟨q, es, hp, hq, -, hr⟩ := h.parts
  have cp := Place_c (n := m) (cl := cl) (by omega) ok.cfg.sm
  have hl4 := ok.cfg.l2
  have : WO (dcall E (m + 1) 57 [.loc p 0 0, .str cl] S) fun d T => d = .int .i64 (leftF x cl) ∧ ExtS S T := by
    refine wo_dcall Tryz.func57 rfl (by decide) rfl 45 rfl (fun a hal ha => ?_)
    have h0 : a[0]? = some (.loc p 0 0) := ha 0 (by simp)
    have h1 : a[1]? = some (.str cl) := ha 1 (by simp)
    clear ha
    simp only [Cfg.enc] at cp
    unfold leftF
    rcases hpl : placeF cl 0 x.cfg.cabs with _ | ⟨a', b'⟩
    · rw [hpl] at cp
      simp only [placeD] at cp
      simp (maxSteps := 1000000) (disch := omega) only [push_cast, ↓wc_seq, ↓wc_condL, ↓wc_region, ↓wr_cons, ↓wr_nil, ↓wo_callf, ↓wc_ret, wo_some, opQ_eq, seqQ_normal, seqQ_ret, retQ_ret, pickC_true, Nat.reduceAdd, Nat.reduceMul, Nat.reduceLT, Nat.reduceLeDiff, Nat.reduceEqDiff, ↓reduceIte, planIds, hasExt, cntFs, idxFs, clnFs, ovlFs, List.contains_cons, List.contains_nil, List.any_cons, List.any_nil, Nat.reduceBEq, setC, List.length_set, reduceCtorEq, eq_self, Nat.zero_add, Nat.add_zero, hal, h0, h1, hp, cp, dUn, Tryz.f57]
      exact ExtS.refl
    · rw [hpl] at cp
      simp only [placeD] at cp
      obtain ⟨y, row, z, v, h1', h2, h3, h4, h5, h6, h7⟩ := ok.at_ hpl
      obtain ⟨r, hr1, -, hr3⟩ := hr a' row h2
      have hrow := ok.rng (by omega) h2
      have hb : b' < row.length := lt_of_get h5
      have ha : a' < x.sold.length := lt_of_get h2
      obtain ⟨k0, T0, co, hk0, -, hx0⟩ := Open_c (n := m) (by omega) h7 hrow h6 hr3
      have hge : ¬ ((row.length : Int) ≤ b') := by omega
      dsimp only
      rw [h1', h2]
      dsimp only
      simp only [Cab.enc] at co
      simp (maxSteps := 1000000) (disch := omega) only [push_cast, ↓wc_seq, ↓wc_condL, ↓wc_region, ↓wr_cons, ↓wr_nil, ↓wo_callf, ↓wc_ret, ↓wc_skip, wo_some, opQ_eq, seqQ_normal, retQ_ret, pickC_false, Nat.reduceAdd, Nat.reduceMul, Nat.reduceLT, Nat.reduceLeDiff, Nat.reduceEqDiff, ↓reduceIte, planIds, hasExt, cntFs, idxFs, clnFs, ovlFs, List.contains_cons, List.contains_nil, List.any_cons, List.any_nil, Nat.reduceBEq, setC, List.length_set, reduceCtorEq, eq_self, Int.natCast_nonneg, Int.toNat_natCast, Int.ofNat_lt, Nat.zero_add, Nat.add_zero, hal, h0, h1, hp, hq, hr1, h1', cp, co, hk0, hge, ha, hb, rowH_get, List.getElem?_map, Cab.enc, dUn, Tryz.f57]
      exact fun k x hk => hx0 k x hk
  obtain ⟨d, T, ho, rfl, hx⟩ := this
  exact callD_obsS rfl rfl ho hx rfl
end

/-! ### The inventory -/
abbrev kL : TypeId := 50
theorem StkAt.push {S : List Ob} {lab : Lab} {o : Nat} {d : D} {s : Stk} {k m : Nat} {ps : List (D × D)} (h : StkAt S lab o kL d s k m ps) (J : List Ob) : StkAt (S ++ J) lab o kL d s k m ps := h.keep KeepO.push
theorem legAt_push {S : List Ob} {lab : Lab} {o i p : Nat} {x : Leg} (h : LegAt S lab o i p x) (J : List Ob) : LegAt (S ++ J) lab o i p x := h.keep KeepO.push
section
variable {S : List Ob} {lab : Lab} {o k m n : Nat} {s : Stk} {ps : List (D × D)} {id : Lid}
/-- What get hands back. -/
theorem get_at (hn : 2 ≤ n) (h : StkAt S lab o kL (.loc k 0 0) s k m ps) (hid : id.Ok) : (s.get id = none ∧ callD E (dcall E n) false S 56 [.loc k 0 0, .agg id.enc] = some (.nilp, S ++ [.row 4 [id.enc]])) ∨
    ∃ i p x, s.get id = some x ∧ callD E (dcall E n) false S 56 [.loc k 0 0, .agg id.enc] = some (.loc p 0 0, S ++ [.row 4 [id.enc]]) ∧ LegAt S lab o i p x := by
  have hg := get_c hn h.row h.map hid
  rcases h.look id with ⟨h1, h2⟩ | ⟨i, x, p, -, -, h1, h2, -, h3⟩
  · rw [h2] at hg
    exact .inl ⟨h1, hg⟩
  · rw [h2] at hg
    exact .inr ⟨i, p, x, h1, hg, h3⟩
set_option maxHeartbeats 4000000 in
set_option maxRecDepth 100000 in
theorem Left_c (hn : 180 ≤ n) (h : StkAt S lab o kL (.loc k 0 0) s k m ps) (ok : StkOk 9999 s) (hid : id.Ok) (cl : ByteArray) (st : Bool) :
    callD E (dcall E n) st S 18 [.loc k 0 0, .agg id.enc, .str cl] = some (.int .i64 (s.left id cl), S) := by
  obtain ⟨q, rfl⟩ : ∃ q, n = q + 1 := ⟨n - 1, by omega⟩
  have : WO (dcall E (q + 1) 18 [.loc k 0 0, .agg id.enc, .str cl] S) fun d T => d = .int .i64 (s.left id cl) ∧ ExtS S T := by
    refine wo_dcall Tryz.func18 rfl (by decide) rfl 22 rfl (fun a hal ha => ?_)
    have h0 : a[0]? = some (.loc k 0 0) := ha 0 (by simp)
    have h1 : a[1]? = some (.agg id.enc) := ha 1 (by simp)
    have h2 : a[2]? = some (.str cl) := ha 2 (by simp)
    clear ha
    unfold Stk.left
    rcases get_at (n := q) (by omega) (h.push [.row 4 [id.enc]]) hid with ⟨e, cg⟩ | ⟨i, p, x, e, cg, hx⟩
    · rw [e]
      simp only [Lid.enc] at h1 cg
      simp (maxSteps := 1000000) (disch := omega) only [push_cast, ↓wc_seq, ↓wc_condL, ↓wc_region, ↓wr_cons, ↓wr_consgL, ↓wr_nil, ↓wo_pickL, ↓wo_callf, ↓wc_ret, wo_some, opQ_eq, seqQ_normal, seqQ_ret, retQ_ret, pickC_true, pickO_true, gstep_tf, Nat.reduceAdd, Nat.reduceMul, Nat.reduceLT, Nat.reduceLeDiff, Nat.reduceEqDiff, ↓reduceIte, planIds, hasExt, cntFs, idxFs, clnFs, ovlFs, List.contains_cons, List.contains_nil, List.any_cons, List.any_nil, Nat.reduceBEq, setC, List.length_set, reduceCtorEq, eq_self, Nat.zero_add, hal, h0, h1, get_end, cg, eqp_leg0, Tryz.f18]
      exact fun j y hj => get_old (get_old hj)
    · rw [e]
      have cl' := left_c (n := q) (by omega) (legAt_push hx [.row 4 [id.enc]]) (ok.get e) cl
      obtain ⟨qq, es, hp, -, -, -⟩ := (legAt_push hx [.row 4 [id.enc]]).parts
      dsimp only
      simp only [Lid.enc] at h1 cg cl' hp
      cases hc : x.closed
      · rw [hc] at hp
        rw [if_neg (by simp)]
        simp (maxSteps := 1000000) (disch := omega) only [push_cast, ↓wc_seq, ↓wc_condL, ↓wc_region, ↓wr_cons, ↓wr_consgL, ↓wr_nil, ↓wo_pickL, ↓wo_callf, ↓wc_ret, ↓wc_skip, wo_some, opQ_eq, seqQ_normal, retQ_ret, pickC_false, pickO_false, gstep_ff, Nat.reduceAdd, Nat.reduceMul, Nat.reduceLT, Nat.reduceLeDiff, Nat.reduceEqDiff, ↓reduceIte, planIds, hasExt, cntFs, idxFs, clnFs, ovlFs, List.contains_cons, List.contains_nil, List.any_cons, List.any_nil, Nat.reduceBEq, setC, List.length_set, reduceCtorEq, eq_self, Nat.zero_add, hal, h0, h1, h2, get_end, cg, eqp_leg, hp, cl', Tryz.f18]
        exact fun j y hj => get_old (get_old hj)
      · rw [hc] at hp
        rw [if_pos rfl]
        simp (maxSteps := 1000000) (disch := omega) only [push_cast, ↓wc_seq, ↓wc_condL, ↓wc_region, ↓wr_cons, ↓wr_consgL, ↓wr_nil, ↓wo_pickL, ↓wo_callf, ↓wc_ret, wo_some, opQ_eq, seqQ_normal, seqQ_ret, retQ_ret, pickC_true, pickO_false, gstep_ff, Nat.reduceAdd, Nat.reduceMul, Nat.reduceLT, Nat.reduceLeDiff, Nat.reduceEqDiff, ↓reduceIte, planIds, hasExt, cntFs, idxFs, clnFs, ovlFs, List.contains_cons, List.contains_nil, List.any_cons, List.any_nil, Nat.reduceBEq, setC, List.length_set, reduceCtorEq, eq_self, Nat.zero_add, hal, h0, h1, get_end, cg, eqp_leg, hp, Tryz.f18]
        exact fun j y hj => get_old (get_old hj)
  obtain ⟨d, T, ho, rfl, hx⟩ := this
  exact callD_obsS rfl rfl ho hx rfl
def equipD : Option ByteArray → D
  | some e => .tup [.str e, .bool true]
  | none => .tup [.str (ByteArray.mk #[]), .bool false]
theorem equipD_pure (o : Option ByteArray) : (equipD o).pure = true := by cases o <;> rfl
set_option maxHeartbeats 4000000 in
set_option maxRecDepth 100000 in
theorem Equip_c (hn : 180 ≤ n) (h : StkAt S lab o kL (.loc k 0 0) s k m ps) (hid : id.Ok) (st : Bool) :
    callD E (dcall E n) st S 74 [.loc k 0 0, .agg id.enc] = some (equipD (s.equip id), S) := by
  obtain ⟨q, rfl⟩ : ∃ q, n = q + 1 := ⟨n - 1, by omega⟩
  have : WO (dcall E (q + 1) 74 [.loc k 0 0, .agg id.enc] S) fun d T => d = equipD (s.equip id) ∧ ExtS S T := by
    refine wo_dcall Tryz.func74 rfl (by decide) rfl 17 rfl (fun a hal ha => ?_)
    have h0 : a[0]? = some (.loc k 0 0) := ha 0 (by simp)
    have h1 : a[1]? = some (.agg id.enc) := ha 1 (by simp)
    clear ha
    unfold Stk.equip
    rcases get_at (n := q) (by omega) (h.push [.row 4 [id.enc]]) hid with ⟨e, cg⟩ | ⟨i, p, x, e, cg, hx⟩
    · rw [e]
      simp only [Lid.enc] at h1 cg
      simp (maxSteps := 1000000) (disch := omega) only [push_cast, ↓wc_seq, ↓wc_condL, ↓wc_region, ↓wr_cons, ↓wr_nil, ↓wo_callf, ↓wc_ret, wo_some, opQ_eq, seqQ_normal, seqQ_ret, retQ_ret, pickC_true, Nat.reduceAdd, Nat.reduceMul, Nat.reduceLT, Nat.reduceLeDiff, Nat.reduceEqDiff, ↓reduceIte, planIds, hasExt, cntFs, idxFs, clnFs, ovlFs, List.contains_cons, List.contains_nil, List.any_cons, List.any_nil, Nat.reduceBEq, setC, List.length_set, reduceCtorEq, eq_self, Nat.zero_add, hal, h0, h1, get_end, cg, eqp_leg0, equipD, Tryz.f74]
      exact fun j y hj => get_old (get_old hj)
    · rw [e]
      obtain ⟨qq, es, hp, -, -, -⟩ := (legAt_push hx [.row 4 [id.enc]]).parts
      simp only [Lid.enc] at h1 cg hp
      simp (maxSteps := 1000000) (disch := omega) only [push_cast, ↓wc_seq, ↓wc_condL, ↓wc_region, ↓wr_cons, ↓wr_nil, ↓wo_callf, ↓wc_ret, ↓wc_skip, wo_some, opQ_eq, seqQ_normal, retQ_ret, pickC_false, Nat.reduceAdd, Nat.reduceMul, Nat.reduceLT, Nat.reduceLeDiff, Nat.reduceEqDiff, ↓reduceIte, planIds, hasExt, cntFs, idxFs, clnFs, ovlFs, List.contains_cons, List.contains_nil, List.any_cons, List.any_nil, Nat.reduceBEq, setC, List.length_set, reduceCtorEq, eq_self, Nat.zero_add, Nat.add_zero, hal, h0, h1, get_end, cg, eqp_leg, hp, equipD, Tryz.f74]
      exact fun j y hj => get_old (get_old hj)
  obtain ⟨d, T, ho, rfl, hx⟩ := this
  exact callD_obsS rfl rfl ho hx (equipD_pure _)
theorem sum_le9 {l : List Int} (h : rngI l) (k : Nat) : 0 ≤ (l.take k).sum ∧ (l.take k).sum ≤ 9999 * l.length := by
  have := sum_bd (l := l.take k) (fun v hv => h v (List.mem_of_mem_take hv))
  have hl : (l.take k).length ≤ l.length := by rw [List.length_take]; omega
  omega
theorem take_sum {l : List Int} {i : Nat} {v : Int} (h : l[i]? = some v) : (l.take (i + 1)).sum = (l.take i).sum + v := by
  rw [List.take_add_one, h]
  simp
set_option maxHeartbeats 4000000 in
set_option maxRecDepth 100000 in
theorem Free_c (hn : 180 ≤ n) (h : StkAt S lab o kL (.loc k 0 0) s k m ps) (ok : StkOk 9999 s) (hid : id.Ok) (cl : ByteArray) (st : Bool) :
    callD E (dcall E n) st S 65 [.loc k 0 0, .agg id.enc, .str cl] = some (.int .i64 (s.free id cl), S) := by
  obtain ⟨q, rfl⟩ : ∃ q, n = q + 1 := ⟨n - 1, by omega⟩
  have : WO (dcall E (q + 1) 65 [.loc k 0 0, .agg id.enc, .str cl] S) fun d T => d = .int .i64 (s.free id cl) ∧ ExtS S T := by
    refine wo_dcall Tryz.func65 rfl (by decide) rfl 58 rfl (fun a hal ha => ?_)
    have h0 : a[0]? = some (.loc k 0 0) := ha 0 (by simp)
    have h1 : a[1]? = some (.agg id.enc) := ha 1 (by simp)
    have h2 : a[2]? = some (.str cl) := ha 2 (by simp)
    clear ha
    unfold Stk.free
    rcases get_at (n := q) (by omega) (h.push [.row 4 [id.enc]]) hid with ⟨e, cg⟩ | ⟨i, p, x, e, cg, hx⟩
    · rw [e]
      simp only [Lid.enc] at h1 cg
      simp (maxSteps := 1000000) (disch := omega) only [push_cast, ↓wc_seq, ↓wc_condL, ↓wc_region, ↓wr_cons, ↓wr_nil, ↓wo_callf, ↓wc_ret, wo_some, opQ_eq, seqQ_normal, seqQ_ret, retQ_ret, pickC_true, Nat.reduceAdd, Nat.reduceMul, Nat.reduceLT, Nat.reduceLeDiff, Nat.reduceEqDiff, ↓reduceIte, planIds, hasExt, cntFs, idxFs, clnFs, ovlFs, List.contains_cons, List.contains_nil, List.any_cons, List.any_nil, Nat.reduceBEq, setC, List.length_set, reduceCtorEq, eq_self, Nat.zero_add, hal, h0, h1, get_end, cg, eqp_leg0, Tryz.f65]
      exact fun j y hj => get_old (get_old hj)
    · rw [e]
      have hok := ok.get e
      have cp := Place_c (n := q) (cl := cl) (by omega) hok.cfg.sm
      obtain ⟨qq, es, hp, hq, -, hr⟩ := (legAt_push hx [.row 4 [id.enc]]).parts
      dsimp only
      simp only [Lid.enc] at h1 cg hp hq hr
      simp only [Cfg.enc] at cp
      unfold freeF
      rcases hpl : placeF cl 0 x.cfg.cabs with _ | ⟨a', b'⟩
      · rw [hpl] at cp
        simp only [placeD] at cp
        simp (maxSteps := 1000000) (disch := omega) only [push_cast, ↓wc_seq, ↓wc_condL, ↓wc_region, ↓wr_cons, ↓wr_nil, ↓wo_callf, ↓wc_ret, ↓wc_skip, wo_some, opQ_eq, seqQ_normal, seqQ_ret, retQ_ret, pickC_true, pickC_false, Nat.reduceAdd, Nat.reduceMul, Nat.reduceLT, Nat.reduceLeDiff, Nat.reduceEqDiff, ↓reduceIte, planIds, hasExt, cntFs, idxFs, clnFs, ovlFs, List.contains_cons, List.contains_nil, List.any_cons, List.any_nil, Nat.reduceBEq, setC, List.length_set, reduceCtorEq, eq_self, Nat.zero_add, Nat.add_zero, hal, h0, h1, h2, get_end, cg, eqp_leg, hp, cp, dUn, Tryz.f65]
        exact fun j y hj => get_old (get_old hj)
      · rw [hpl] at cp
        simp only [placeD] at cp
        obtain ⟨y, row, z, v, e1, e2, e3, e4, e5, e6, e7⟩ := hok.at_ hpl
        obtain ⟨r, hr1, -, hr3⟩ := hr a' row e2
        have hrow := hok.rng (by omega) e2
        have ha : a' < x.sold.length := lt_of_get e2
        have hl26 := e7.l2
        have hau := aut_le e7
        have ca := Auth_c (n := q) (by omega) (y := y) (by have := e7.s1; omega) (by have := e7.s2; omega) (by have := e7.o1; omega) (by have := e7.o2; omega)
        have hau0 : 0 ≤ autF y := by have := e7.s1; have := e7.o1; unfold autF; omega
        dsimp only
        rw [e1, e2]
        dsimp only
        simp only [Cab.enc] at ca
        simp (maxSteps := 1000000) (disch := omega) only [push_cast, ↓wc_seq, ↓wc_block, ↓wc_condL, ↓wc_region, ↓wr_cons, ↓wr_nil, ↓wo_callf, ↓wc_skip, ↓wc_wl, wo_some, opQ_eq, seqQ_normal, pickC_false, Nat.reduceAdd, Nat.reduceMul, Nat.reduceLT, Nat.reduceLeDiff, Nat.reduceEqDiff, ↓reduceIte, planIds, hasExt, cntFs, idxFs, clnFs, ovlFs, List.contains_cons, List.contains_nil, List.any_cons, List.any_nil, Nat.reduceBEq, setC, List.length_set, reduceCtorEq, eq_self, Int.natCast_nonneg, Int.toNat_natCast, Int.ofNat_lt, Nat.zero_add, Nat.add_zero, hal, h0, h1, h2, get_end, cg, eqp_leg, hp, hq, hr1, ha, e1, cp, ca, List.getElem?_map, Cab.enc, dUn]
        refine wl_loop (fun j a T => T = S ++ [Ob.row 4 [[.str id.c, .int .i64 id.n, .int .i64 id.d, .str id.f]]] ++ [Ob.row 4 [[.str id.c, .int .i64 id.n, .int .i64 id.d, .str id.f]]] ∧ a.length = 58 ∧ a[11]? = some (.int .i64 (autF y - (row.take j).sum)) ∧ a[46]? = some (.os r 0 row.length false) ∧ a[47]? = some (.int .i64 row.length) ∧ a[48]? = some (.int .i64 j)) row.length ?_ (by omega) ?_
        · simp (maxSteps := 1000000) (disch := omega) only [push_cast, Nat.reduceLT, Nat.reduceEqDiff, ↓reduceIte, setC, List.length_set, eq_self, hal, Int.natCast_zero, List.take_zero, List.sum_nil, Int.sub_zero]
        clear hal h0 h1 h2 a
        rintro j a T hj ⟨rfl, hal, h11, h46, h47, h48⟩
        rcases Nat.lt_or_eq_of_le hj with hlt | rfl
        case inr =>
          have hs := sum_le9 hrow row.length
          rw [List.take_length] at h11 hs
          have hmax : (if autF y - row.sum < 0 then 0 else autF y - row.sum) = max (autF y - row.sum) 0 := by split <;> omega
          simp (maxSteps := 1000000) (disch := omega) only [push_cast, ↓wc_seq, ↓wc_condL, ↓wc_region, ↓wr_cons, ↓wr_nil, ↓wc_exit, ↓wc_ret, wo_some, opQ_eq, seqQ_normal, seqQ_exit, blockQ_exit, iterQ_exit, retQ_ret, pickC_false, Nat.reduceAdd, Nat.reduceMul, Nat.reduceLT, Nat.reduceEqDiff, ↓reduceIte, planIds, List.contains_cons, List.contains_nil, Nat.reduceBEq, setC, List.length_set, eq_self, Int.ofNat_lt, Nat.zero_add, hal, h11, h47, h48, Nat.lt_irrefl, hmax, Tryz.f65]
          exact fun j y hj => get_old (get_old hj)
        obtain ⟨v, hv⟩ : ∃ v, row[j]? = some v := ⟨row[j], by simp⟩
        have hs := sum_le9 hrow j
        have hvb := hrow v (List.mem_of_getElem? hv)
        have htk := take_sum hv
        have hsub : autF y - (row.take j).sum - v = autF y - ((row.take j).sum + v) := by omega
        simp (maxSteps := 1000000) (disch := omega) only [push_cast, ↓wc_seq, ↓wc_block, ↓wc_condL, ↓wc_region, ↓wr_cons, ↓wr_nil, ↓wc_skip, wo_some, opQ_eq, seqQ_normal, blockQ_normal, iterQ_normal, pickC_true, Nat.reduceAdd, Nat.reduceMul, Nat.reduceLT, Nat.reduceEqDiff, ↓reduceIte, planIds, List.contains_cons, List.contains_nil, Nat.reduceBEq, setC, List.length_set, eq_self, Int.natCast_nonneg, Int.toNat_natCast, Int.ofNat_lt, Nat.zero_add, hal, h11, h46, h47, h48, hlt, hr3, hv, htk, List.getElem?_map, hsub, wrap_ok, Int.natCast_add, Int.natCast_one]
  obtain ⟨d, T, ho, rfl, hx⟩ := this
  exact callD_obsS rfl rfl ho hx rfl
theorem leg_sizes {l : List Cfg} {B : Int} {x : Leg} (ok : LegOk l B x) {c : Nat} {y : Cab} (hy : x.cfg.cabs[c]? = some y) : ∃ row, x.sold[c]? = some row ∧ row.length = y.cls.length ∧ CabOk y := by
  have hc : c < x.sold.length := by rw [ok.len]; exact lt_of_get hy
  exact ⟨x.sold[c], List.getElem?_eq_getElem hc, ok.rows c y _ hy (List.getElem?_eq_getElem hc), ok.cfg.cab y (List.mem_of_getElem? hy)⟩
/-- The excess of the first cabins. -/
def excT (x : Leg) : Nat → Int
  | 0 => 0
  | c + 1 => match x.cfg.cabs[c]?, x.sold[c]? with
    | some y, some row => max (excT x c) (excF y row row.length)
    | _, _ => excT x c
theorem excL_go : ∀ (cs : List Cab) (t : List (List Int)) (m : Int) (f : Nat → Int) (n : Nat), cs.length = t.length → f 0 = m → (∀ c y row, cs[c]? = some y → t[c]? = some row → f (c + 1) = max (f c) (excF y row row.length)) → (cs.zip t).foldl (fun m p => max m (excF p.1 p.2 p.2.length)) m = f cs.length
  | [], [], m, f, n, _, h0, _ => h0.symm
  | y :: cs, row :: t, m, f, n, hl, h0, h => by
    have h1 := h 0 y row rfl rfl
    rw [List.zip_cons_cons, List.foldl_cons]
    exact excL_go cs t _ (fun c => f (c + 1)) n (by simpa using hl) (by rw [h1, h0]) fun c y' row' h2 h3 => h (c + 1) y' row' (by simpa using h2) (by simpa using h3)
theorem excL_eq {l : List Cfg} {B : Int} {x : Leg} (ok : LegOk l B x) : excL x = excT x x.cfg.cabs.length := by
  unfold excL
  refine excL_go _ _ 0 (excT x) 0 ok.len.symm rfl fun c y row h1 h2 => ?_
  rw [excT, h1, h2]
theorem cutS {S : List Ob} {o1 o2 : Ob} {J : List Ob} : ExtS S (S ++ [o1] ++ [o2] ++ J) := fun j y hj => get_old (get_old (get_old hj))
set_option maxHeartbeats 4000000 in
set_option maxRecDepth 100000 in
theorem SExcess_c (hn : 180 ≤ n) (h : StkAt S lab o kL (.loc k 0 0) s k m ps) (ok : StkOk 9999 s) (hid : id.Ok) (st : Bool) :
    callD E (dcall E n) st S 67 [.loc k 0 0, .agg id.enc] = some (.int .i64 (s.excess id), S) := by
  obtain ⟨q, rfl⟩ : ∃ q, n = q + 1 := ⟨n - 1, by omega⟩
  have : WO (dcall E (q + 1) 67 [.loc k 0 0, .agg id.enc] S) fun d T => d = .int .i64 (s.excess id) ∧ ExtS S T := by
    refine wo_dcall Tryz.func67 rfl (by decide) rfl 38 rfl (fun a hal ha => ?_)
    have h0 : a[0]? = some (.loc k 0 0) := ha 0 (by simp)
    have h1 : a[1]? = some (.agg id.enc) := ha 1 (by simp)
    clear ha
    unfold Stk.excess
    rcases get_at (n := q) (by omega) (h.push [.row 4 [id.enc]]) hid with ⟨e, cg⟩ | ⟨i, p, x, e, cg, hx⟩
    · rw [e]
      simp only [Lid.enc] at h1 cg
      simp (maxSteps := 1000000) (disch := omega) only [push_cast, ↓wc_seq, ↓wc_condL, ↓wc_region, ↓wr_cons, ↓wr_nil, ↓wo_callf, ↓wc_ret, ↓wc_skip, wo_some, opQ_eq, seqQ_normal, retQ_ret, pickC_false, Nat.reduceAdd, Nat.reduceMul, Nat.reduceLT, Nat.reduceLeDiff, Nat.reduceEqDiff, ↓reduceIte, planIds, hasExt, cntFs, idxFs, clnFs, ovlFs, List.contains_cons, List.contains_nil, List.any_cons, List.any_nil, Nat.reduceBEq, setC, List.length_set, reduceCtorEq, eq_self, Nat.zero_add, hal, h0, h1, get_end, cg, eqp_leg0, Tryz.f67]
      exact fun j y hj => get_old (get_old hj)
    · rw [e]
      have hok := ok.get e
      have hl4 := hok.cfg.l2
      dsimp only
      rw [excL_eq hok]
      have hx1 := legAt_push hx [.row 4 [id.enc]]
      obtain ⟨qq, es, hp, -, -, -⟩ := hx1.parts
      simp only [Lid.enc] at h1 cg hp
      simp (maxSteps := 1000000) (disch := omega) only [push_cast, ↓wc_seq, ↓wc_block, ↓wc_condL, ↓wc_region, ↓wr_cons, ↓wr_nil, ↓wo_callf, ↓wc_wl, wo_some, opQ_eq, seqQ_normal, pickC_true, Nat.reduceAdd, Nat.reduceMul, Nat.reduceLT, Nat.reduceLeDiff, Nat.reduceEqDiff, ↓reduceIte, planIds, hasExt, cntFs, idxFs, clnFs, ovlFs, List.contains_cons, List.contains_nil, List.any_cons, List.any_nil, Nat.reduceBEq, setC, List.length_set, reduceCtorEq, eq_self, Nat.zero_add, Nat.add_zero, hal, h0, h1, get_end, cg, eqp_leg, hp, List.length_map]
      refine wl_loop (fun c a T => a.length = 38 ∧ a[5]? = some (.loc p 0 0) ∧ a[6]? = some (.int .i64 (excT x c)) ∧ a[18]? = some (.sl 4 (x.cfg.cabs.map Cab.enc) x.cfg.cabsx) ∧ a[19]? = some (.int .i64 x.cfg.cabs.length) ∧ a[20]? = some (.int .i64 c) ∧ ∃ J, T = S ++ [.row 4 [id.enc]] ++ [.row 4 [id.enc]] ++ J) x.cfg.cabs.length ?_ (by omega) ?_
      · simp (maxSteps := 1000000) (disch := omega) only [push_cast, Nat.reduceLT, Nat.reduceEqDiff, ↓reduceIte, setC, List.length_set, eq_self, hal, Int.natCast_zero, excT]
        exact ⟨[], by simp [Lid.enc]⟩
      clear hal h0 h1 a
      rintro c a T hc ⟨hal, h5, h6, h18, h19, h20, J, rfl⟩
      rcases Nat.lt_or_eq_of_le hc with hlt | rfl
      case inr =>
        simp (maxSteps := 1000000) (disch := omega) only [push_cast, ↓wc_seq, ↓wc_condL, ↓wc_region, ↓wr_cons, ↓wr_nil, ↓wc_exit, ↓wc_ret, wo_some, opQ_eq, seqQ_normal, seqQ_exit, blockQ_exit, iterQ_exit, retQ_ret, pickC_false, Nat.reduceAdd, Nat.reduceMul, Nat.reduceLT, Nat.reduceEqDiff, ↓reduceIte, planIds, List.contains_cons, List.contains_nil, Nat.reduceBEq, setC, List.length_set, eq_self, Int.ofNat_lt, Nat.zero_add, hal, h6, h19, h20, Nat.lt_irrefl, Tryz.f67]
        exact cutS
      obtain ⟨y, hy⟩ : ∃ y, x.cfg.cabs[c]? = some y := ⟨x.cfg.cabs[c], by simp [hlt]⟩
      obtain ⟨row, hrow, hrl, hyo⟩ := leg_sizes hok hy
      have hx2 := legAt_push (legAt_push hx1 J) [cabR y]
      obtain ⟨qq, es, hp, hq, -, hr⟩ := hx2.parts
      obtain ⟨r, hr1, -, hr3⟩ := hr c row hrow
      have hcs : c < x.sold.length := lt_of_get hrow
      have ce := Excess_c (n := q) (by omega) hyo (hok.rng (by omega) hrow) hrl hr3
      have hexc : excT x (c + 1) = max (excT x c) (excF y row row.length) := by rw [excT, hy, hrow]
      have hmax : (if excT x c < excF y row row.length then excF y row row.length else excT x c) = excT x (c + 1) := by rw [hexc]; split <;> omega
      generalize hU : S ++ [Ob.row 4 [id.enc]] ++ [Ob.row 4 [id.enc]] ++ J = U at *
      simp only [Cab.enc] at ce
      simp (maxSteps := 1000000) (disch := omega) only [push_cast, ↓wc_seq, ↓wc_block, ↓wc_condL, ↓wc_region, ↓wr_cons, ↓wr_nil, ↓wo_callf, ↓wc_skip, wo_some, opQ_eq, seqQ_normal, blockQ_normal, iterQ_normal, pickC_true, Nat.reduceAdd, Nat.reduceMul, Nat.reduceLT, Nat.reduceLeDiff, Nat.reduceEqDiff, ↓reduceIte, planIds, hasExt, cntFs, idxFs, clnFs, ovlFs, List.contains_cons, List.contains_nil, List.any_cons, List.any_nil, Nat.reduceBEq, setC, List.length_set, eq_self, Int.natCast_nonneg, Int.toNat_natCast, Int.ofNat_lt, Nat.zero_add, hal, h5, h6, h18, h19, h20, hlt, hy, set_end, get_end, hp, hq, hr1, hcs, ce, hmax, List.getElem?_map, Cab.enc, wrap_ok, Int.natCast_add, Int.natCast_one]
      exact ⟨J ++ [cabR y], by rw [← hU]; simp⟩
  obtain ⟨d, T, ho, rfl, hx⟩ := this
  exact callD_obsS rfl rfl ho hx rfl
end
end Go.Proofs.YtajhgnefcddenaaGreatDoor.Dm
