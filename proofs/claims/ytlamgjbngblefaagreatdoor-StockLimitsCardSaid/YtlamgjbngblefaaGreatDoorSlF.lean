/-
  The walk of StockLimits.
-/
import Derived.Test.YtlamgjbngblefaaGreatDoorSlL
import Derived.Test.YtlamgjbngblefaaGreatDoorSkH
namespace Go.Proofs.YtlamgjbngblefaaGreatDoor.Dm
open Go Gw
set_option linter.unusedSimpArgs false
set_option linter.unusedSimpArgs false

theorem SAt.setfree {S : List Ob} {lab : Lab} {o k w : Nat} {s : Stk} (h : SAt S lab o k s) (hw : lab w = []) (ob : Ob) : SAt (S.set w ob) lab o k s := by
  obtain ⟨hf, m, ps, h⟩ := h
  refine ⟨fun x hx => hf x (by simpa using hx), m, ps, h.keep fun x ob' t hx hl => ⟨?_, hl⟩⟩
  rw [List.getElem?_set_ne]
  · exact hx
  · rintro rfl
    rw [hw] at hl
    cases hl
theorem addW_map {ws : List Int} {k : Nat} {u b : Int} (hu : ws[k]? = some u) : (ws.map (D.int .i64)).set k (.int .i64 (u + b)) = (addW ws k b).map (D.int .i64) := by
  unfold addW
  rw [List.map_set, List.getD_eq_getElem?_getD, hu]
  rfl
theorem tot_bd {s : Stk} (ok : StkOk 9999 s) (id : Lid) : 0 ≤ totF s id ∧ totF s id ≤ 10000000 := by
  obtain ⟨h1, h2, h3⟩ := soldV_rng ok id
  have := sum_le9 h1 (soldV s id).length
  rw [List.take_length, h3] at this
  omega
theorem limS_l (p : Stk × List Int) (a : Cal) : (limS p a).1.l = p.1.l ∧ (limS p a).1.x = p.1.x := by
  unfold limS
  split
  · exact ⟨rfl, rfl⟩
  split
  · exact doF_l p.1 a
  · exact doF_l p.1 a
theorem limF6_l (l : List Cfg) (x : Bool) (acts : List Cal) : (limF6 l x acts).1.l = l ∧ (limF6 l x acts).1.x = x := by
  unfold limF6
  suffices H : ∀ (acts : List Cal) (p : Stk × List Int), (acts.foldl limS p).1.l = p.1.l ∧ (acts.foldl limS p).1.x = p.1.x from H acts _
  intro acts
  induction acts with
  | nil => intro p; exact ⟨rfl, rfl⟩
  | cons a acts ih =>
    intro p
    rw [List.foldl_cons]
    obtain ⟨h1, h2⟩ := ih (limS p a)
    obtain ⟨g1, g2⟩ := limS_l p a
    exact ⟨h1.trans g1, h2.trans g2⟩
theorem CfgZ.mono {a b : Nat} {c : Cfg} (h : CfgZ a c) (hab : a ≤ b) : CfgZ b c :=
  ⟨⟨by have := h.eq.1; omega, h.eq.2⟩, fun y hy => ⟨by have := (h.nm y hy).1; omega, (h.nm y hy).2⟩, fun y hy z hz => ⟨by have := (h.cl y hy z hz).1; omega, (h.cl y hy z hz).2⟩⟩
theorem wrap_i64n {x : Int} (h0 : -128 ≤ x) (h1 : x ≤ 127) : IntKind.i64.wrap x = x := wrap_ok (by omega) (by omega)
set_option maxHeartbeats 16000000 in
set_option maxRecDepth 100000 in
theorem StockLimits_d {n : Nat} (hn : 1300 ≤ n) {l : List Cfg} {acts : List Cal} {lx ax : Bool} (hz : ∀ c ∈ l, CfgZ (n - 3) c) (hacts : ∀ a ∈ acts, a.Ok) :
    ∃ T, dcall E (n + 1) 6 [.sl 2 (l.map Cfg.enc) lx, .sl 6 (acts.map Cal.enc) ax] [] = some (.bool true, T) := by
  have cw := fun st S => awake15_c (n := n) (by omega) st S
  obtain ⟨rb, cr, hr⟩ := Right_c (n := n) (l := l) (acts := acts) (lx := lx) (ax := ax) (by omega) hz
  have : WO (dcall E (n + 1) 6 [.sl 2 (l.map Cfg.enc) lx, .sl 6 (acts.map Cal.enc) ax] []) fun r T => r = .bool true := by
    refine wo_dcall Tryz.func6 rfl (by decide) rfl 113 rfl (fun a hal ha => ?_)
    have h0 : a[0]? = some (.sl 2 (l.map Cfg.enc) lx) := ha 0 (by simp)
    have h1 : a[1]? = some (.sl 6 (acts.map Cal.enc) ax) := ha 1 (by simp)
    clear ha
    cases rb
    · simp (maxSteps := 1000000) (disch := omega) only [push_cast, ↓wc_seq, ↓wc_condL, ↓wc_region, ↓wr_cons, ↓wr_nil, ↓wo_callf, ↓wc_ret, wo_some, opQ_eq, seqQ_normal, seqQ_ret, retQ_ret, pickC_true, Nat.reduceAdd, Nat.reduceMul, Nat.reduceLT, Nat.reduceEqDiff, ↓reduceIte, planIds, hasExt, cntFs, idxFs, clnFs, ovlFs, List.contains_cons, List.contains_nil, List.any_nil, Nat.reduceBEq, setC, List.length_set, reduceCtorEq, eq_self, Nat.zero_add, planIds, hasExt, cntFs, idxFs, clnFs, ovlFs, List.contains_cons, List.contains_nil, List.any_nil, Nat.reduceBEq, Nat.reduceMul, Nat.reduceAdd, ↓reduceIte, hal, h0, h1, cr, cw, dUn, Tryz.f6]
    obtain ⟨hr1, hr2, hr3⟩ := hr rfl
    have hg := good_of (n := n - 1) (by omega) hr3 (fun c hc => (hz c hc).mono (by omega))
    obtain ⟨T0, lab0, p, cn, hs0, -⟩ := New_c (S := []) (lab := fun _ => []) (o := 1) (n := n) (lx := lx) (by omega) hg (fun _ _ => rfl)
    obtain ⟨w, hw⟩ : ∃ w, w = T0.length := ⟨_, rfl⟩
    simp (maxSteps := 1000000) (disch := omega) only [push_cast, ↓wc_seq, ↓wc_block, ↓wc_condL, ↓wc_region, ↓wr_cons, ↓wr_consgL, ↓wr_nil, ↓wo_pickL, ↓wo_callf, ↓wc_skip, ↓wc_wl, wo_some, opQ_eq, seqQ_normal, pickC_false, pickO_false, gstep_ff, Nat.reduceAdd, Nat.reduceMul, Nat.reduceLT, Nat.reduceEqDiff, ↓reduceIte, planIds, hasExt, cntFs, idxFs, clnFs, ovlFs, List.contains_cons, List.contains_nil, List.any_nil, Nat.reduceBEq, setC, List.length_set, reduceCtorEq, eq_self, Nat.zero_add, gt_iff_lt, planIds, hasExt, cntFs, idxFs, clnFs, ovlFs, List.contains_cons, List.contains_nil, List.any_nil, Nat.reduceBEq, Nat.reduceMul, Nat.reduceAdd, ↓reduceIte, hal, h0, h1, cr, cn, dUn, eqp_stk, Int.lt_irrefl, gt_iff_lt, ← hw]
    refine wl_loop (fun i a T => a.length = 113 ∧ a[0]? = some (.sl 2 (l.map Cfg.enc) lx) ∧ a[1]? = some (.sl 6 (acts.map Cal.enc) ax) ∧ a[5]? = some (.loc p 0 0) ∧ a[7]? = some (.loc w 0 0) ∧ a[8]? = some (.int .i64 i) ∧ T[w]? = some (.row 6 [(limF6 l lx (acts.take i)).2.map (D.int .i64)]) ∧ ∃ lab', lab' w = [] ∧ SAt T lab' 1 p (limF6 l lx (acts.take i)).1 ∧ LimInv (127 * i) (limF6 l lx (acts.take i))) acts.length ?_ (by omega) ?_
    · simp (maxSteps := 1000000) (disch := omega) only [push_cast, Nat.reduceLT, Nat.reduceEqDiff, Int.reduceMul, ↓reduceIte, setC, List.length_set, reduceCtorEq, eq_self, ↓reduceIte, hal, h0, h1, Int.natCast_zero, List.take_zero]
      refine ⟨by rw [hw, get_end]; rfl, lab0, hs0.1 w (by omega), hs0.push _, ⟨⟨hg.ok, List.nodup_nil, (fun q hq => by cases hq)⟩, (fun id x hx => by cases hx), rfl, fun k v hk => ?_⟩⟩
      have : v = 0 := by
        have hk' : (List.replicate 6 (0 : Int))[k]? = some v := hk
        rw [List.getElem?_replicate] at hk'
        split at hk'
        · exact (Option.some.inj hk').symm
        · cases hk'
      rw [this]; rfl
    clear hal h0 h1 a
    rintro i a T hi ⟨hal, h0, h1, h5, h7, h8, hTw, lab1, hlw, hs, hinv⟩
    have hi60 : i ≤ 60 := by omega
    have hB : (127 * (i : Int)) ≤ 9999 := by omega
    have ok9 := hinv.ok.mono hB
    rcases Nat.lt_or_eq_of_le hi with hlt | rfl
    case inr =>
      rw [List.take_length] at hTw hs hinv ok9
      generalize limF6 l lx acts = q at *
      obtain ⟨s, ws⟩ := q
      dsimp only at hTw hs hinv ok9
      obtain ⟨hfs, m, ps, hst⟩ := id hs
      simp (maxSteps := 1000000) (disch := omega) only [push_cast, ↓wc_seq, ↓wc_block, ↓wc_condL, ↓wc_region, ↓wr_cons, ↓wr_nil, ↓wc_exit, ↓wc_wl, wo_some, opQ_eq, seqQ_normal, seqQ_exit, blockQ_exit, iterQ_exit, pickC_false, Nat.reduceAdd, Nat.reduceMul, Nat.reduceLT, Nat.reduceEqDiff, ↓reduceIte, planIds, List.contains_cons, List.contains_nil, Nat.reduceBEq, setC, List.length_set, eq_self, Nat.zero_add, planIds, List.contains_cons, List.contains_nil, Nat.reduceBEq, Nat.reduceMul, Nat.reduceAdd, ↓reduceIte, hal, h1, h8, Int.lt_irrefl, List.length_map]
      refine wl_loop (fun j a V => V = T ∧ a.length = 113 ∧ a[5]? = some (.loc p 0 0) ∧ a[7]? = some (.loc w 0 0) ∧ a[11]? = some (.int .i64 j)) 6 ?_ (by omega) ?_
      · simp (maxSteps := 1000000) (disch := omega) only [push_cast, Nat.reduceLT, Nat.reduceEqDiff, ↓reduceIte, setC, List.length_set, eq_self, ↓reduceIte, hal, h5, h7, Int.natCast_zero]
      clear hal h0 h1 h5 h7 h8 a
      rintro j a V hj ⟨rfl, hal, h5, h7, h11⟩
      rcases Nat.lt_or_eq_of_le hj with hlj | rfl
      case inr =>
        simp (maxSteps := 1000000) (disch := omega) only [push_cast, ↓wc_seq, ↓wc_condL, ↓wc_region, ↓wr_cons, ↓wr_nil, ↓wo_callf, ↓wc_exit, ↓wc_ret, wo_some, opQ_eq, seqQ_normal, seqQ_exit, blockQ_exit, iterQ_exit, retQ_ret, pickC_false, Nat.reduceAdd, Nat.reduceMul, Nat.reduceLT, Int.reduceLT, ↓reduceIte, planIds, hasExt, cntFs, idxFs, clnFs, ovlFs, List.contains_cons, List.contains_nil, List.any_nil, Nat.reduceBEq, setC, List.length_set, eq_self, Nat.zero_add, planIds, hasExt, cntFs, idxFs, clnFs, ovlFs, List.contains_cons, List.contains_nil, List.any_nil, Nat.reduceBEq, Nat.reduceMul, Nat.reduceAdd, ↓reduceIte, hal, h11, cw, Int.cast_ofNat_Int, Tryz.f6]
      have hljc : (j : Int) < 6 := by omega
      have ci := Id_c (n := n) (k := j) (by omega) (by omega)
      have hwj := wrap_u8 (k := j) (by omega)
      have c1 := SExcess_c (n := n) (by omega) hst ok9 (idF_ok j)
      rw [excess_zero hinv.lim] at c1
      have c2 := sum_c (n := n) (by omega) hst ok9 (idF_ok j)
      have hlen := hinv.len
      dsimp only at hlen
      obtain ⟨v, hv⟩ : ∃ v, ws[j]? = some v := ⟨ws[j]'(by omega), by simp⟩
      have hvt := hinv.want j v hv
      dsimp only at hvt
      rw [← hvt] at c2
      simp only [Lid.enc] at ci c1 c2
      simp (maxSteps := 1000000) (disch := omega) only [push_cast, ↓wc_seq, ↓wc_block, ↓wc_condL, ↓wc_region, ↓wr_cons, ↓wr_consgL, ↓wr_nil, ↓wo_pickL, ↓wo_callf, ↓wc_skip, wo_some, opQ_eq, seqQ_normal, blockQ_normal, iterQ_normal, pickC_true, pickC_false, pickO_false, gstep_ff, int_bne, Nat.reduceAdd, Nat.reduceMul, Nat.reduceLT, Nat.reduceEqDiff, Int.reduceAdd, ↓reduceIte, planIds, hasExt, cntFs, idxFs, clnFs, ovlFs, List.contains_cons, List.contains_nil, List.any_nil, Nat.reduceBEq, setC, List.length_set, eq_self, Int.natCast_nonneg, Int.toNat_natCast, Nat.zero_add, not_true_eq_false, planIds, hasExt, cntFs, idxFs, clnFs, ovlFs, List.contains_cons, List.contains_nil, List.any_nil, Nat.reduceBEq, Nat.reduceMul, Nat.reduceAdd, ↓reduceIte, hal, h5, h7, h11, hlj, hljc, ci, hwj, c1, c2, hTw, hv, List.getElem?_map, wrap_ok, Int.natCast_add, Int.natCast_one, Int.toNat_natCast, Nat.mul_one, Nat.zero_add]
    obtain ⟨c, hc⟩ : ∃ c, acts[i]? = some c := ⟨acts[i], by simp⟩
    have hltc : (i : Int) < acts.length := by omega
    have hco := hacts c (List.mem_of_getElem? hc)
    have hsucc := limF6_succ (l := l) (x := lx) hc
    have hinv2 := limS_inv hinv (by omega) hB hco
    rw [← hsucc] at hinv2
    obtain ⟨pl, px⟩ := limF6_l l lx (acts.take i)
    have hll : (limF6 l lx (acts.take i)).1.l.length ≤ 100 := by rw [pl]; omega
    have hs1 := hs.push [.row 6 [c.enc]]
    have hlT : lab1 T.length = [] := hs.1 _ (Nat.le_refl _)
    obtain ⟨T', lab2, cd, h1s, st1⟩ := Do_c (n := n) (lx := lx) (by omega) hs1 ok9 hll hco
    rw [pl] at cd
    have hw2 := st1.free (x := w) (get_old (J := [Ob.row 6 [c.enc]]) hTw) hlw
    have hb2 := st1.free (x := T.length) (ob := .row 6 [c.enc]) get_end hlT
    have hn2 : (127 * ((i : Int) + 1)) = 127 * i + 127 := by omega
    generalize hq0 : limF6 l lx (acts.take i) = q at *
    obtain ⟨s, ws⟩ := q
    dsimp only at *
    obtain ⟨kd, g, mo, eq, cl, z⟩ := c
    obtain ⟨ha1, ha2, ha3, ha4, ha5, ha6, ha7⟩ := id hco
    dsimp only at ha1 ha2 ha3 ha4 ha5 ha6 ha7
    have t7 : (kd : Int).tmod 7 = ((kd % 7 : Nat) : Int) := tmod_nat kd 7
    obtain ⟨r, hr⟩ : ∃ r, kd % 7 = r := ⟨_, rfl⟩
    rw [hr] at t7
    simp only [Cal.enc] at cd hb2 hs1
    by_cases h6 : r = 6
    · have e : limF6 l lx (acts.take (i + 1)) = (s, ws) := by rw [hsucc]; unfold limS; rw [if_pos (by rw [hr, h6])]
      have h6c : ((r : Nat) : Int) = 6 := by omega
      rw [e] at hinv2
      simp (maxSteps := 1000000) (disch := omega) only [push_cast, ↓wc_seq, ↓wc_block, ↓wc_condL, ↓wc_region, ↓wr_cons, ↓wr_nil, ↓wc_exit, ↓wc_skip, wo_some, opQ_eq, seqQ_normal, seqQ_exit, blockQ_exit, iterQ_normal, pickC_true, int_beq, Nat.reduceAdd, Nat.reduceMul, Nat.reduceLT, Nat.reduceLeDiff, Nat.reduceEqDiff, Int.reduceEq, ↓reduceIte, planIds, List.contains_cons, List.contains_nil, Nat.reduceBEq, setC, List.length_set, reduceCtorEq, eq_self, Int.natCast_nonneg, Int.toNat_natCast, Nat.zero_add, Nat.add_zero, planIds, List.contains_cons, List.contains_nil, Nat.reduceBEq, Nat.reduceMul, Nat.reduceAdd, ↓reduceIte, hal, h0, h1, h5, h7, h8, hlt, hltc, hc, get_end, set_end, t7, h6c, List.length_map, List.getElem?_map, Cal.enc, wrap_ok, Int.natCast_add, Int.natCast_one]
      rw [e]
      refine ⟨get_old hTw, lab1, hlw, hs1, ?_⟩
      rw [hn2]; exact hinv2
    have h6c : ¬ ((r : Nat) : Int) = 6 := by omega
    by_cases hd : (doF s ⟨kd, g, mo, eq, cl, z⟩).1 ≠ 0 ∨ r < 2
    · have e : limF6 l lx (acts.take (i + 1)) = ((doF s ⟨kd, g, mo, eq, cl, z⟩).2, ws) := by
        rw [hsucc]; unfold limS; rw [if_neg (by rw [hr]; exact h6), if_pos (by rw [hr]; exact hd)]
      rw [e] at hinv2
      have fin : T'[w]? = some (.row 6 [ws.map (D.int .i64)]) ∧ ∃ lab', lab' w = [] ∧ SAt T' lab' 1 p (doF s ⟨kd, g, mo, eq, cl, z⟩).2 ∧ LimInv (127 * ((i : Int) + 1)) ((doF s ⟨kd, g, mo, eq, cl, z⟩).2, ws) :=
        ⟨hw2.1, lab2, hw2.2, h1s, by rw [hn2]; exact hinv2⟩
      by_cases hd0 : (doF s ⟨kd, g, mo, eq, cl, z⟩).1 = 0
      · have h2 : r < 2 := by rcases hd with hd | hd; exact absurd hd0 hd; exact hd
        have h2c : ((r : Nat) : Int) < 2 := by omega
        simp (maxSteps := 1000000) (disch := omega) only [push_cast, ↓wc_seq, ↓wc_block, ↓wc_condL, ↓wc_region, ↓wr_cons, ↓wr_consgL, ↓wr_nil, ↓wo_pickL, ↓wo_callf, ↓wc_exit, ↓wc_skip, wo_some, opQ_eq, seqQ_normal, seqQ_exit, blockQ_exit, iterQ_normal, pickC_true, pickC_false, pickO_false, gstep_ff, int_bne, int_beq, Nat.reduceAdd, Nat.reduceMul, Nat.reduceLT, Nat.reduceLeDiff, Nat.reduceEqDiff, Int.reduceEq, ↓reduceIte, planIds, hasExt, cntFs, idxFs, clnFs, ovlFs, List.contains_cons, List.contains_nil, List.any_nil, Nat.reduceBEq, setC, List.length_set, reduceCtorEq, eq_self, Int.natCast_nonneg, Int.toNat_natCast, Nat.zero_add, Nat.add_zero, not_true_eq_false, planIds, hasExt, cntFs, idxFs, clnFs, ovlFs, List.contains_cons, List.contains_nil, List.any_nil, Nat.reduceBEq, Nat.reduceMul, Nat.reduceAdd, ↓reduceIte, hal, h0, h1, h5, h7, h8, hlt, hltc, hc, get_end, set_end, t7, h6c, h2c, cd, hd0, hb2.1, List.length_map, List.getElem?_map, Cal.enc, wrap_ok, Int.natCast_add, Int.natCast_one]
        rw [e]
        exact fin
      · simp (maxSteps := 1000000) (disch := omega) only [push_cast, ↓wc_seq, ↓wc_block, ↓wc_condL, ↓wc_region, ↓wr_cons, ↓wr_consgL, ↓wr_nil, ↓wo_pickL, ↓wo_callf, ↓wc_exit, ↓wc_skip, wo_some, opQ_eq, seqQ_normal, seqQ_exit, blockQ_exit, iterQ_normal, pickC_true, pickC_false, pickO_true, gstep_tf, int_bne, int_beq, Nat.reduceAdd, Nat.reduceMul, Nat.reduceLT, Nat.reduceLeDiff, Nat.reduceEqDiff, Int.reduceEq, ↓reduceIte, planIds, hasExt, cntFs, idxFs, clnFs, ovlFs, List.contains_cons, List.contains_nil, List.any_nil, Nat.reduceBEq, setC, List.length_set, reduceCtorEq, eq_self, Int.natCast_nonneg, Int.toNat_natCast, Nat.zero_add, Nat.add_zero, not_false_eq_true, planIds, hasExt, cntFs, idxFs, clnFs, ovlFs, List.contains_cons, List.contains_nil, List.any_nil, Nat.reduceBEq, Nat.reduceMul, Nat.reduceAdd, ↓reduceIte, hal, h0, h1, h5, h7, h8, hlt, hltc, hc, get_end, set_end, t7, h6c, cd, hd0, List.length_map, List.getElem?_map, Cal.enc, wrap_ok, Int.natCast_add, Int.natCast_one]
        rw [e]
        exact fin
    have hd0 : (doF s ⟨kd, g, mo, eq, cl, z⟩).1 = 0 := Classical.not_not.1 fun h => hd (.inl h)
    have h2 : ¬ r < 2 := fun h => hd (.inr h)
    have h2c : ¬ ((r : Nat) : Int) < 2 := by omega
    have e : limF6 l lx (acts.take (i + 1)) = ((doF s ⟨kd, g, mo, eq, cl, z⟩).2, wantS ws ⟨kd, g, mo, eq, cl, z⟩) := by
      rw [hsucc]; unfold limS; rw [if_neg (by rw [hr]; exact h6), if_neg (by rw [hr]; exact hd)]
    rw [e] at hinv2
    have hlen := hinv.len
    dsimp only at hlen
    obtain ⟨lg, hlg⟩ : ∃ x, g % 6 = x := ⟨_, rfl⟩
    obtain ⟨m4, hm4⟩ : ∃ x, mo % 4 = x := ⟨_, rfl⟩
    obtain ⟨mq, hmq⟩ : ∃ x, mo / 4 = x := ⟨_, rfl⟩
    obtain ⟨lm, hlm⟩ : ∃ x, mq % 6 = x := ⟨_, rfl⟩
    have t6 : (g : Int).tmod 6 = (lg : Int) := by rw [← hlg]; exact tmod_nat g 6
    have t4 : (mo : Int).tmod 4 = (m4 : Int) := by rw [← hm4]; exact tmod_nat mo 4
    have tq : IntKind.u8.wrap ((mo : Int).tdiv 4) = (mq : Int) := by
      have : (mo : Int).tdiv 4 = ((mo / 4 : Nat) : Int) := tdiv_nat mo 4
      rw [this, hmq, wrap_u8 (by omega)]
    have tq6 : (mq : Int).tmod 6 = (lm : Int) := by rw [← hlm]; exact tmod_nat mq 6
    have hg6 : lg < 6 := by rw [← hlg]; exact Nat.mod_lt _ (by omega)
    have hm6 : lm < 6 := by rw [← hlm]; exact Nat.mod_lt _ (by omega)
    have hg6c : (lg : Int) < 6 := by omega
    have hm6c : (lm : Int) < 6 := by omega
    have hbyb : -128 ≤ byF ⟨kd, g, mo, eq, cl, z⟩ ∧ byF ⟨kd, g, mo, eq, cl, z⟩ ≤ 128 := by unfold byF; split <;> (dsimp only; omega)
    have hbe : byF ⟨kd, g, mo, eq, cl, z⟩ = if r = 5 then -z else z := by unfold byF; dsimp only; rw [hr]
    obtain ⟨by', hby⟩ : ∃ b, b = byF ⟨kd, g, mo, eq, cl, z⟩ := ⟨_, rfl⟩
    rw [← hby] at hbyb hbe
    obtain ⟨u, hu⟩ : ∃ u, ws[lg]? = some u := ⟨ws[lg]'(by omega), by simp⟩
    have hub : 0 ≤ u ∧ u ≤ 10000000 := by rw [hinv.want _ _ hu]; exact tot_bd ok9 _
    have hm1 := addW_map (b := by') hu
    have hl1 : (addW ws (lg) by').length = 6 := by rw [addW_len, hlen]
    obtain ⟨u2, hu2⟩ : ∃ u2, (addW ws (lg) by')[lm]? = some u2 := ⟨(addW ws (lg) by')[lm]'(by omega), by simp⟩
    have hub2 : -1000 ≤ u2 ∧ u2 ≤ 10001000 := by
      obtain ⟨v, hv, rfl⟩ := addW_get (by omega) hu2
      have : 0 ≤ v ∧ v ≤ 10000000 := by rw [hinv.want _ _ hv]; exact tot_bd ok9 _
      split <;> omega
    have hm2 := addW_map (b := by') hu2
    have hwl := lt_of_get hw2.1
    have hbox1 : ∀ ob, (T'.set w ob)[T.length]? = some (.row 6 [[.int .u8 kd, .int .u8 g, .int .u8 mo, .int .u8 eq, .int .u8 cl, .int .i8 z]]) := fun ob => by
      rw [List.getElem?_set_ne]
      · exact hb2.1
      · intro e
        have := lt_of_get hTw
        omega
    have hW : wantS ws ⟨kd, g, mo, eq, cl, z⟩ = if m4 = 0 then addW (addW ws (lg) by') (lm) by' else addW ws (lg) by' := by unfold wantS; dsimp only; rw [hm4, hlg, hmq, hlm, ← hby]
    rw [hW] at hinv2
    have fin : ∀ ws', LimInv (127 * (i : Int) + 127) ((doF s ⟨kd, g, mo, eq, cl, z⟩).2, ws') → ((T'.set w (.row 6 [ws'.map (D.int .i64)]))[w]? = some (.row 6 [ws'.map (D.int .i64)]) ∧ ∃ lab', lab' w = [] ∧ SAt (T'.set w (.row 6 [ws'.map (D.int .i64)])) lab' 1 p (doF s ⟨kd, g, mo, eq, cl, z⟩).2 ∧ LimInv (127 * ((i : Int) + 1)) ((doF s ⟨kd, g, mo, eq, cl, z⟩).2, ws')) :=
      fun ws' h => ⟨List.getElem?_set_self hwl, lab2, hw2.2, h1s.setfree hw2.2 _, by rw [hn2]; exact h⟩
    by_cases r5 : r = 5
    · rw [if_pos r5] at hbe
      have h5c : ((r : Nat) : Int) = 5 := by omega
      have hneg : IntKind.i64.wrap (0 - z) = by' := by rw [wrap_ok (by omega) (by omega), hbe]; omega
      by_cases h4 : m4 = 0
      · rw [if_pos h4] at hinv2
        have h4c : (m4 : Int) = 0 := by omega
        simp (maxSteps := 1000000) (disch := omega) only [push_cast, ↓wc_seq, ↓wc_block, ↓wc_condL, ↓wc_region, ↓wr_cons, ↓wr_consgL, ↓wr_nil, ↓wo_pickL, ↓wo_callf, ↓wc_skip, wo_some, opQ_eq, seqQ_normal, blockQ_normal, iterQ_normal, pickC_true, pickC_false, pickO_false, gstep_ff, int_bne, int_beq, Nat.reduceAdd, Nat.reduceMul, Nat.reduceLT, Nat.reduceLeDiff, Nat.reduceEqDiff, Int.reduceAdd, Int.reduceLT, Int.reduceEq, ↓reduceIte, planIds, hasExt, cntFs, idxFs, clnFs, ovlFs, List.contains_cons, List.contains_nil, List.any_nil, Nat.reduceBEq, setC, List.length_set, reduceCtorEq, eq_self, Int.natCast_nonneg, Int.toNat_natCast, Option.some.injEq, Nat.zero_add, Nat.add_zero, not_true_eq_false, planIds, hasExt, cntFs, idxFs, clnFs, ovlFs, List.contains_cons, List.contains_nil, List.any_nil, Nat.reduceBEq, Nat.reduceMul, Nat.reduceAdd, ↓reduceIte, hal, h0, h1, h5, h7, h8, hlt, hltc, hc, get_end, set_end, t7, h5c, h4c, cd, hd0, hb2.1, hw2.1, hbox1, t6, t4, tq, tq6, hg6c, hm6c, hneg, hu, hm1, hl1, hu2, hm2, hwl, hlen, List.length_map, List.getElem?_map, Cal.enc, dUn, dConv, if_pos, wrap_i64n, wrap_ok, Int.natCast_add, Int.natCast_one, Int.toNat_natCast, Nat.mul_one, Nat.zero_add, List.set_set]
        rw [e, hW, if_pos h4]
        exact ⟨rfl, (fin _ hinv2).2⟩
      · rw [if_neg h4] at hinv2
        have h4c : ¬ (m4 : Int) = 0 := by omega
        simp (maxSteps := 1000000) (disch := omega) only [push_cast, ↓wc_seq, ↓wc_block, ↓wc_condL, ↓wc_region, ↓wr_cons, ↓wr_consgL, ↓wr_nil, ↓wo_pickL, ↓wo_callf, ↓wc_skip, wo_some, opQ_eq, seqQ_normal, blockQ_normal, iterQ_normal, pickC_true, pickC_false, pickO_false, gstep_ff, int_bne, int_beq, Nat.reduceAdd, Nat.reduceMul, Nat.reduceLT, Nat.reduceLeDiff, Nat.reduceEqDiff, Int.reduceAdd, Int.reduceLT, Int.reduceEq, ↓reduceIte, planIds, hasExt, cntFs, idxFs, clnFs, ovlFs, List.contains_cons, List.contains_nil, List.any_nil, Nat.reduceBEq, setC, List.length_set, reduceCtorEq, eq_self, Int.natCast_nonneg, Int.toNat_natCast, Option.some.injEq, Nat.zero_add, Nat.add_zero, not_true_eq_false, planIds, hasExt, cntFs, idxFs, clnFs, ovlFs, List.contains_cons, List.contains_nil, List.any_nil, Nat.reduceBEq, Nat.reduceMul, Nat.reduceAdd, ↓reduceIte, hal, h0, h1, h5, h7, h8, hlt, hltc, hc, get_end, set_end, t7, h5c, h4c, cd, hd0, hb2.1, hw2.1, hbox1, t6, t4, hg6c, hneg, hu, hm1, hwl, hlen, List.length_map, List.getElem?_map, Cal.enc, dUn, dConv, if_pos, wrap_i64n, wrap_ok, Int.natCast_add, Int.natCast_one, Int.toNat_natCast, Nat.mul_one, Nat.zero_add]
        rw [e, hW, if_neg h4]
        exact ⟨rfl, (fin _ hinv2).2⟩
    · rw [if_neg r5] at hbe
      have h5c : ¬ ((r : Nat) : Int) = 5 := by omega
      subst hbe
      by_cases h4 : m4 = 0
      · rw [if_pos h4] at hinv2
        have h4c : (m4 : Int) = 0 := by omega
        simp (maxSteps := 1000000) (disch := omega) only [push_cast, ↓wc_seq, ↓wc_block, ↓wc_condL, ↓wc_region, ↓wr_cons, ↓wr_consgL, ↓wr_nil, ↓wo_pickL, ↓wo_callf, ↓wc_skip, wo_some, opQ_eq, seqQ_normal, blockQ_normal, iterQ_normal, pickC_true, pickC_false, pickO_false, gstep_ff, int_bne, int_beq, Nat.reduceAdd, Nat.reduceMul, Nat.reduceLT, Nat.reduceLeDiff, Nat.reduceEqDiff, Int.reduceAdd, Int.reduceEq, ↓reduceIte, planIds, hasExt, cntFs, idxFs, clnFs, ovlFs, List.contains_cons, List.contains_nil, List.any_nil, Nat.reduceBEq, setC, List.length_set, reduceCtorEq, eq_self, Int.natCast_nonneg, Int.toNat_natCast, Option.some.injEq, Nat.zero_add, Nat.add_zero, not_true_eq_false, planIds, hasExt, cntFs, idxFs, clnFs, ovlFs, List.contains_cons, List.contains_nil, List.any_nil, Nat.reduceBEq, Nat.reduceMul, Nat.reduceAdd, ↓reduceIte, hal, h0, h1, h5, h7, h8, hlt, hltc, hc, get_end, set_end, t7, h6c, h2c, h5c, h4c, cd, hd0, hb2.1, hw2.1, hbox1, t6, t4, tq, tq6, hg6c, hm6c, hu, hm1, hl1, hu2, hm2, hwl, hlen, List.length_map, List.getElem?_map, Cal.enc, dConv, if_pos, wrap_i64n, wrap_ok, Int.natCast_add, Int.natCast_one, Int.toNat_natCast, Nat.mul_one, Nat.zero_add, List.set_set]
        rw [e, hW, if_pos h4]
        exact ⟨rfl, (fin _ hinv2).2⟩
      · rw [if_neg h4] at hinv2
        have h4c : ¬ (m4 : Int) = 0 := by omega
        simp (maxSteps := 1000000) (disch := omega) only [push_cast, ↓wc_seq, ↓wc_block, ↓wc_condL, ↓wc_region, ↓wr_cons, ↓wr_consgL, ↓wr_nil, ↓wo_pickL, ↓wo_callf, ↓wc_skip, wo_some, opQ_eq, seqQ_normal, blockQ_normal, iterQ_normal, pickC_true, pickC_false, pickO_false, gstep_ff, int_bne, int_beq, Nat.reduceAdd, Nat.reduceMul, Nat.reduceLT, Nat.reduceLeDiff, Nat.reduceEqDiff, Int.reduceAdd, Int.reduceEq, ↓reduceIte, planIds, hasExt, cntFs, idxFs, clnFs, ovlFs, List.contains_cons, List.contains_nil, List.any_nil, Nat.reduceBEq, setC, List.length_set, reduceCtorEq, eq_self, Int.natCast_nonneg, Int.toNat_natCast, Option.some.injEq, Nat.zero_add, Nat.add_zero, not_true_eq_false, planIds, hasExt, cntFs, idxFs, clnFs, ovlFs, List.contains_cons, List.contains_nil, List.any_nil, Nat.reduceBEq, Nat.reduceMul, Nat.reduceAdd, ↓reduceIte, hal, h0, h1, h5, h7, h8, hlt, hltc, hc, get_end, set_end, t7, h6c, h2c, h5c, h4c, cd, hd0, hb2.1, hw2.1, hbox1, t6, t4, hg6c, hu, hm1, hwl, hlen, List.length_map, List.getElem?_map, Cal.enc, dConv, if_pos, wrap_i64n, wrap_ok, Int.natCast_add, Int.natCast_one, Int.toNat_natCast, Nat.mul_one, Nat.zero_add]
        rw [e, hW, if_neg h4]
        exact ⟨rfl, (fin _ hinv2).2⟩
  obtain ⟨_, T, ho, rfl⟩ := this
  exact ⟨T, ho⟩
end Go.Proofs.YtlamgjbngblefaaGreatDoor.Dm
namespace Go.Proofs.YtlamgjbngblefaaGreatDoor
open Go Go.ChangeShapes Go.WideShapes Go.ChangeAt Go.RowKit Dm
theorem StockLimits_walk {W : World} {xs : List D} {vs : Array Value} (ht : TVs Tryz.prog [22, 23] xs) (hv : VRs W ⟨Tryz.prog, fun _ => none, fun g => g < W.heap.size⟩ xs vs.toList) (hp : pureL xs = true) :
    Calls Tryz.prog 6 vs W fun e W' => e = .returned (.bool true) ∧ Below W.heap.size W W' := by
  obtain ⟨d1, _, rfl, h1, ht⟩ := ht.inv
  obtain ⟨d2, _, rfl, h2, ht⟩ := ht.inv
  have := ht.inv0
  subst this
  obtain ⟨v1, v2, hvs⟩ : ∃ v1 v2, vs.toList = [v1, v2] := by
    have := hv.1
    match vs.toList, this with
    | [v1, v2], _ => exact ⟨v1, v2, rfl⟩
  rw [hvs] at hv
  have r1 := hv.head
  have r2 := hv.tail.head
  obtain ⟨n, hn⟩ : ∃ n : Nat, 9223372036854775807 + 5000 ≤ n := ⟨_, Nat.le_refl _⟩
  obtain ⟨l, lx, z1, w1⟩ := Cfgs_front h1 hn
  obtain ⟨acts, ax, z2, w2⟩ := Acts_front h2
  obtain ⟨T, hT⟩ := StockLimits_d (n := n) (lx := lx) (ax := ax) (by omega) z1 z2
  refine true_of_dcall envOk (I := fun g => g < W.heap.size) hT (fun g h => h) (fun g cs hg => by cases hg) ?_
  rw [hvs]
  exact VRs.cons (w1 _ _ _ r1) (VRs.cons (w2 _ _ _ r2) VRs.nil)
end Go.Proofs.YtlamgjbngblefaaGreatDoor
