/-
  The machine at the program's inventory: what does not change it.
-/
import Derived.Test.YthkbiiammhekfaaGreatDoorSkR
set_option linter.unusedSimpArgs false
set_option linter.unusedVariables false
namespace Go.Proofs.YthkbiiammhekfaaGreatDoor.Dm
open Go Gw
set_option linter.unusedSimpArgs false
set_option linter.unusedSimpArgs false

/-! ### Keys and pointers -/
theorem lit_ok {n : Int} (h : -9223372036854775808 ≤ n ∧ n ≤ 9223372036854775807) : (Lit.int .i64 n).wf = true := by
 unfold Lit.wf
 rw [Bool.and_eq_true, decide_eq_true_eq, decide_eq_true_eq]
 exact h
set_option maxRecDepth 100000 in
theorem keyOk_lid {id : Lid} (h : id.Ok) : keyOk Tryz.prog 50 (.agg id.enc) = true := by
 obtain ⟨c, n, d, f⟩ := id
 obtain ⟨h1, h2, h3, h4, -⟩ := h
 have hk : Tryz.prog.keyType 50 = true := by kernel_rfl
 have z0 : Tryz.prog.cellsOf 50 = 4 := by kernel_rfl
 have z1 : Tryz.prog.cellsOf 9 = 1 := by kernel_rfl
 have z2 : Tryz.prog.cellsOf 3 = 1 := by kernel_rfl
 have m1 : c.size ≤ maxLen := by simp only [maxLen]; exact h1
 have m4 : f.size ≤ maxLen := by simp only [maxLen]; exact h4
 have w2 := lit_ok h2
 have w3 := lit_ok h3
 obtain ⟨q, hq⟩ : ∃ q, Tryz.prog.types.size + 1 = q + 1 + 1 := by
  have : Nat.ble 1 Tryz.prog.types.size = true := by kernel_rfl
  have := Nat.le_of_ble_eq_true this
  exact ⟨Tryz.prog.types.size - 1, by omega⟩
 unfold keyOk
 simp only [litV, Lid.enc, litCs, litC, Option.map_some]
 unfold keyOf
 rw [Tryz.underlying50]
 dsimp only
 rw [hk, hq]
 simp [Value.formed, Tryz.underlying50, z0, Program.keyLits, Value.cells, Tryz.underlying9, Tryz.underlying3, z1, z2, m1, m4, w2, w3]
set_option maxRecDepth 100000 in
theorem eq_lid (a b : Lid) : dEq Tryz.prog 10000 50 (.agg a.enc) (.agg b.enc) = some (decide (a = b)) := by
 obtain ⟨c, n, d, f⟩ := a
 obtain ⟨c', n', d', f'⟩ := b
 rw [show (10000 : Nat) = 9998 + 1 + 1 from rfl]
 have hs : Tryz.prog.stoodInHeld 50 = false := by kernel_rfl
 simp only [Lid.mk.injEq]
 by_cases e1 : c = c' <;> by_cases e2 : n = n' <;> by_cases e3 : d = d' <;> by_cases e4 : f = f' <;> simp (decide := true) only [push_cast, Lid.enc, dEq, dEqs, beq_self_eq_true, bytes_refl, hs, str_eq', e1, e2, e3, e4, decide_false, decide_true]
theorem plain_lid : plainEqT Tryz.prog 50 = true := by kernel_rfl
theorem keys_lid : E.keys 50 = true := by kernel_rfl
theorem eqp_loc {k i o : Nat} {t e : TypeId} {P : Program} (ht : P.underlying t = some (.pointer e)) : dEq P 10000 t (.loc k i o) .nilp = some false := by
 rw [show (10000 : Nat) = 9999 + 1 from rfl]
 simp only [dEq, ht]
theorem eqp_nil {t e : TypeId} {P : Program} (ht : P.underlying t = some (.pointer e)) : dEq P 10000 t .nilp .nilp = some true := by
 rw [show (10000 : Nat) = 9999 + 1 from rfl]
 simp only [dEq, ht]
theorem eqm_map {k : Nat} {t a b : TypeId} {P : Program} (ht : P.underlying t = some (.map a b)) : dEq P 10000 t (.map k) .nilm = some false := by
 rw [show (10000 : Nat) = 9999 + 1 from rfl]
 simp only [dEq, ht]
theorem eqp_stk {k i o : Nat} : dEq Tryz.prog 10000 26 (.loc k i o) .nilp = some false := eqp_loc Tryz.underlying26
theorem eqp_leg {k i o : Nat} : dEq Tryz.prog 10000 107 (.loc k i o) .nilp = some false := eqp_loc Tryz.underlying107
theorem eqp_leg0 : dEq Tryz.prog 10000 107 .nilp .nilp = some true := eqp_nil Tryz.underlying107
theorem eqm_legs {k : Nat} : dEq Tryz.prog 10000 80 (.map k) .nilm = some false := eqm_map Tryz.underlying80
section
variable {S : List Ob} {lab : Lab} {o k m n : Nat} {c0 : D} {ps : List (D × D)}
theorem made_c (hn : 1 ≤ n) (hk : S[k]? = some (.row 2 [[c0, .map m]])) (st : Bool) : callD E (dcall E n) st S 68 [.loc k 0 0] = some (.bool true, S) := by
 obtain ⟨q, rfl⟩ : ∃ q, n = q + 1 := ⟨n - 1, by omega⟩
 have : WO (dcall E (q + 1) 68 [.loc k 0 0] S) fun d T => d = .bool true ∧ T = S := by
  refine wo_dcall Tryz.func68 rfl (by decide) rfl 12 rfl (fun a hal ha => ?_)
  have h0 : a[0]? = some (.loc k 0 0) := ha 0 (by simp)
  clear ha
  simp (maxSteps := 1000000) (disch := omega) only [push_cast, ↓wc_seq, ↓wc_region, ↓wr_cons, ↓wr_consgL, ↓wr_nil, ↓wo_pickL, ↓wc_ret, Nat.reduceAdd, Nat.reduceMul, Nat.reduceLT, Nat.reduceEqDiff, ↓reduceIte, Nat.reduceBEq, reduceCtorEq, hal, h0, hk, eqp_stk, eqm_legs, Tryz.f68]
 obtain ⟨d, T, ho, rfl, rfl⟩ := this
 exact callD_obs rfl rfl ho rfl
theorem get_c (hn : 2 ≤ n) (hk : S[k]? = some (.row 2 [[c0, .map m]])) (hm : S[m]? = some (.map 50 ps)) {id : Lid} (hid : id.Ok) :
  callD E (dcall E n) false S 46 [.loc k 0 0, .agg id.enc] = some ((lookM ps (.agg id.enc)).getD .nilp, S ++ [.row 4 [id.enc]]) := by
 obtain ⟨q, rfl⟩ : ∃ q, n = q + 1 := ⟨n - 1, by omega⟩
 have hkx : (S ++ [Ob.row 4 [id.enc]])[k]? = some (.row 2 [[c0, .map m]]) := get_old hk
 have hmx : (S ++ [Ob.row 4 [id.enc]])[m]? = some (.map 50 ps) := get_old hm
 have cm := made_c (n := q) (by omega) hkx
 have kl := keyOk_lid hid
 have ks := keys_lid
 have : WO (dcall E (q + 1) 46 [.loc k 0 0, .agg id.enc] S) fun d T => d = (lookM ps (.agg id.enc)).getD .nilp ∧ T = S ++ [.row 4 [id.enc]] := by
  refine wo_dcall Tryz.func46 rfl (by decide) rfl 14 rfl (fun a hal ha => ?_)
  have h0 : a[0]? = some (.loc k 0 0) := ha 0 (by simp)
  have h1 : a[1]? = some (.agg id.enc) := ha 1 (by simp)
  clear ha
  simp only [Lid.enc] at h1 hkx hmx cm kl
  generalize hv : lookM ps (.agg id.enc) = v
  simp only [Lid.enc] at hv ⊢
  rcases v with _ | v
  ·simp (maxSteps := 1000000) (disch := omega) only [push_cast, ↓wc_seq, ↓wc_condL, ↓wc_region, ↓wr_cons, ↓wr_nil, ↓wo_callf, ↓wc_ret, ↓wc_skip, Nat.reduceAdd, Nat.reduceMul, Nat.reduceLT, Nat.reduceLeDiff, Nat.reduceEqDiff, ↓reduceIte, Nat.reduceBEq, reduceCtorEq, hal, h0, h1, hkx, hmx, cm, kl, ks, hv, dUn, get_end, Tryz.f46]
  ·simp (maxSteps := 1000000) (disch := omega) only [push_cast, ↓wc_seq, ↓wc_condL, ↓wc_region, ↓wr_cons, ↓wr_nil, ↓wo_callf, ↓wc_ret, ↓wc_skip, Nat.reduceAdd, Nat.reduceMul, Nat.reduceLT, Nat.reduceLeDiff, Nat.reduceEqDiff, ↓reduceIte, Nat.reduceBEq, reduceCtorEq, hal, h0, h1, hkx, hmx, cm, kl, ks, hv, dUn, get_end, Tryz.f46]
 obtain ⟨d, T, ho, rfl, rfl⟩ := this
 exact (callD_own rfl rfl).trans ho
end

/-! ### A leg -/
theorem LegOk.rng {l : List Cfg} {B : Int} {x : Leg} (h : LegOk l B x) (hB : B ≤ 9999) {i : Nat} {r : List Int} (hr : x.sold[i]? = some r) : rngI r := fun v hv => by
 obtain ⟨h1, h2⟩ := h.row hr
 obtain ⟨k, hk⟩ := List.mem_iff_getElem?.1 hv
 have := sum_at h1 hk
 have := h1 v hv
 omega
theorem LegAt.parts {S : List Ob} {lab : Lab} {o i p : Nat} {x : Leg} (h : LegAt S lab o i p x) : ∃ q es, S[p]? = some (.row 4 [[.str x.cfg.equip, .sl 4 (x.cfg.cabs.map Cab.enc) x.cfg.cabsx, .os q 0 x.sold.length false, .bool x.closed]]) ∧ S[q]? = some (.row 1 es) ∧ lab q = [o, 2, i] ∧
  ∀ (j : Nat) (row : List Int), x.sold[j]? = some row → ∃ r, es[j]? = some [.os r 0 row.length false] ∧ lab r = [o, 3, i, j] ∧ S[r]? = some (.row 1 (row.map encZ)) := by
 obtain ⟨-, d, h1, q, r, es, rfl, h2, h3, h4, h5⟩ := h
 exact ⟨q, es, h1, h3, h2, fun j row hj => ⟨r j, h5 j row hj⟩⟩
section
variable {S : List Ob} {lab : Lab} {o i p n : Nat} {x : Leg} {l : List Cfg}
set_option maxHeartbeats 4000000 in
set_option maxRecDepth 100000 in
theorem left_c (hn : 170 ≤ n) (h : LegAt S lab o i p x) (ok : LegOk l 9999 x) (cl : ByteArray) (st : Bool) : callD E (dcall E n) st S 47 [.loc p 0 0, .str cl] = some (.int .i64 (leftF x cl), S) := by
 obtain ⟨m, rfl⟩ : ∃ m, n = m + 1 := ⟨n - 1, by omega⟩
 obtain ⟨q, es, hp, hq, -, hr⟩ := h.parts
 have cp := Place_c (n := m) (cl := cl) (by omega) ok.cfg.sm
 have hl4 := ok.cfg.l2
 have : WO (dcall E (m + 1) 47 [.loc p 0 0, .str cl] S) fun d T => d = .int .i64 (leftF x cl) ∧ ExtS S T := by
  refine wo_dcall Tryz.func47 rfl (by decide) rfl 45 rfl (fun a hal ha => ?_)
  have h0 : a[0]? = some (.loc p 0 0) := ha 0 (by simp)
  have h1 : a[1]? = some (.str cl) := ha 1 (by simp)
  clear ha
  simp only [Cfg.enc] at cp
  unfold leftF
  rcases hpl : placeF cl 0 x.cfg.cabs with _ | ⟨a', b'⟩
  ·rw [hpl] at cp
   simp only [placeD] at cp
   simp (maxSteps := 1000000) (disch := omega) only [push_cast, ↓wc_seq, ↓wc_condL, ↓wc_region, ↓wr_cons, ↓wr_nil, ↓wo_callf, ↓wc_ret, Nat.reduceAdd, Nat.reduceMul, Nat.reduceLT, Nat.reduceLeDiff, Nat.reduceEqDiff, ↓reduceIte, Nat.reduceBEq, reduceCtorEq, hal, h0, h1, hp, cp, dUn, Tryz.f47]
   exact ExtS.refl
  ·rw [hpl] at cp
   simp only [placeD] at cp
   obtain ⟨y, row, z, v, h1', h2, h3, h4, h5, h6, h7⟩ := ok.at_ hpl
   obtain ⟨r, hr1, -, hr3⟩ := hr a' row h2
   have hrow := ok.rng (by omega) h2
   have hb : b' < row.length := lt_of_get h5
   have ha : a' < x.sold.length := lt_of_get h2
   obtain ⟨k0, T0, co, hk0, -, hx0⟩ := Open_c (n := m) (by omega) h7 hrow h6 hr3
   have hge : ¬ ((row.length : Int) ≤ b') := by omega
   dsimp only
   rw [h1', h2]
   dsimp only
   simp only [Cab.enc] at co
   simp (maxSteps := 1000000) (disch := omega) only [push_cast, ↓wc_seq, ↓wc_condL, ↓wc_region, ↓wr_cons, ↓wr_nil, ↓wo_callf, ↓wc_ret, ↓wc_skip, Nat.reduceAdd, Nat.reduceMul, Nat.reduceLT, Nat.reduceLeDiff, Nat.reduceEqDiff, ↓reduceIte, Nat.reduceBEq, reduceCtorEq, hal, h0, h1, hp, hq, hr1, h1', cp, co, hk0, hge, ha, hb, rowH_get, Cab.enc, dUn, Tryz.f47]
   exact fun k x hk => hx0 k x hk
 obtain ⟨d, T, ho, rfl, hx⟩ := this
 exact callD_obsS rfl rfl ho hx rfl
end

/-! ### The inventory -/
abbrev kL : TypeId := 50
theorem StkAt.push {S : List Ob} {lab : Lab} {o : Nat} {d : D} {s : Stk} {k m : Nat} {ps : List (D × D)} (h : StkAt S lab o kL d s k m ps) (J : List Ob) : StkAt (S ++ J) lab o kL d s k m ps := h.keep KeepO.push
theorem legAt_push {S : List Ob} {lab : Lab} {o i p : Nat} {x : Leg} (h : LegAt S lab o i p x) (J : List Ob) : LegAt (S ++ J) lab o i p x := h.keep KeepO.push
section
variable {S : List Ob} {lab : Lab} {o k m n : Nat} {s : Stk} {ps : List (D × D)} {id : Lid}
theorem get_at (hn : 2 ≤ n) (h : StkAt S lab o kL (.loc k 0 0) s k m ps) (hid : id.Ok) : (s.get id = none ∧ callD E (dcall E n) false S 46 [.loc k 0 0, .agg id.enc] = some (.nilp, S ++ [.row 4 [id.enc]])) ∨
  ∃ i p x, s.get id = some x ∧ callD E (dcall E n) false S 46 [.loc k 0 0, .agg id.enc] = some (.loc p 0 0, S ++ [.row 4 [id.enc]]) ∧ LegAt S lab o i p x := by
 have hg := get_c hn h.row h.map hid
 rcases h.look id with ⟨h1, h2⟩ | ⟨i, x, p, -, -, h1, h2, -, h3⟩
 ·rw [h2] at hg
  exact .inl ⟨h1, hg⟩
 ·rw [h2] at hg
  exact .inr ⟨i, p, x, h1, hg, h3⟩
set_option maxHeartbeats 4000000 in
set_option maxRecDepth 100000 in
theorem Left_c (hn : 180 ≤ n) (h : StkAt S lab o kL (.loc k 0 0) s k m ps) (ok : StkOk 9999 s) (hid : id.Ok) (cl : ByteArray) (st : Bool) :
  callD E (dcall E n) st S 16 [.loc k 0 0, .agg id.enc, .str cl] = some (.int .i64 (s.left id cl), S) := by
 obtain ⟨q, rfl⟩ : ∃ q, n = q + 1 := ⟨n - 1, by omega⟩
 have : WO (dcall E (q + 1) 16 [.loc k 0 0, .agg id.enc, .str cl] S) fun d T => d = .int .i64 (s.left id cl) ∧ ExtS S T := by
  refine wo_dcall Tryz.func16 rfl (by decide) rfl 22 rfl (fun a hal ha => ?_)
  have h0 : a[0]? = some (.loc k 0 0) := ha 0 (by simp)
  have h1 : a[1]? = some (.agg id.enc) := ha 1 (by simp)
  have h2 : a[2]? = some (.str cl) := ha 2 (by simp)
  clear ha
  unfold Stk.left
  rcases get_at (n := q) (by omega) (h.push [.row 4 [id.enc]]) hid with ⟨e, cg⟩ | ⟨i, p, x, e, cg, hx⟩
  ·rw [e]
   simp only [Lid.enc] at h1 cg
   simp (maxSteps := 1000000) (disch := omega) only [push_cast, ↓wc_seq, ↓wc_condL, ↓wc_region, ↓wr_cons, ↓wr_consgL, ↓wr_nil, ↓wo_pickL, ↓wo_callf, ↓wc_ret, Nat.reduceAdd, Nat.reduceMul, Nat.reduceLT, Nat.reduceLeDiff, Nat.reduceEqDiff, ↓reduceIte, Nat.reduceBEq, reduceCtorEq, hal, h0, h1, get_end, cg, eqp_leg0, Tryz.f16]
   exact fun j y hj => get_old (get_old hj)
  ·rw [e]
   have cl' := left_c (n := q) (by omega) (legAt_push hx [.row 4 [id.enc]]) (ok.get e) cl
   obtain ⟨qq, es, hp, -, -, -⟩ := (legAt_push hx [.row 4 [id.enc]]).parts
   dsimp only
   simp only [Lid.enc] at h1 cg cl' hp
   cases hc : x.closed
   ·rw [hc] at hp
    rw [if_neg (by simp)]
    simp (maxSteps := 1000000) (disch := omega) only [push_cast, ↓wc_seq, ↓wc_condL, ↓wc_region, ↓wr_cons, ↓wr_consgL, ↓wr_nil, ↓wo_pickL, ↓wo_callf, ↓wc_ret, ↓wc_skip, Nat.reduceAdd, Nat.reduceMul, Nat.reduceLT, Nat.reduceLeDiff, Nat.reduceEqDiff, ↓reduceIte, Nat.reduceBEq, reduceCtorEq, hal, h0, h1, h2, get_end, cg, eqp_leg, hp, cl', Tryz.f16]
    exact fun j y hj => get_old (get_old hj)
   ·rw [hc] at hp
    rw [if_pos rfl]
    simp (maxSteps := 1000000) (disch := omega) only [push_cast, ↓wc_seq, ↓wc_condL, ↓wc_region, ↓wr_cons, ↓wr_consgL, ↓wr_nil, ↓wo_pickL, ↓wo_callf, ↓wc_ret, Nat.reduceAdd, Nat.reduceMul, Nat.reduceLT, Nat.reduceLeDiff, Nat.reduceEqDiff, ↓reduceIte, Nat.reduceBEq, reduceCtorEq, hal, h0, h1, get_end, cg, eqp_leg, hp, Tryz.f16]
    exact fun j y hj => get_old (get_old hj)
 obtain ⟨d, T, ho, rfl, hx⟩ := this
 exact callD_obsS rfl rfl ho hx rfl
def equipD : Option ByteArray → D
 | some e => .tup [.str e, .bool true]
 | none => .tup [.str (ByteArray.mk #[]), .bool false]
def excT (x : Leg) : Nat → Int
 | 0 => 0
 | c + 1 => match x.cfg.cabs[c]?, x.sold[c]? with
  | some y, some row => max (excT x c) (excF y row row.length)
  | _, _ => excT x c
end
end Go.Proofs.YthkbiiammhekfaaGreatDoor.Dm
