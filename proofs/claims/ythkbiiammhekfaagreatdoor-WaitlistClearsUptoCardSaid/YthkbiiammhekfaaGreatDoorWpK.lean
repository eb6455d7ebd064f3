/-
  The law WaitlistPlays: what is too big; every call's results are the reference's.
-/
import Derived.Test.YthkbiiammhekfaaGreatDoorWpJ
import Derived.Test.YthkbiiammhekfaaGreatDoorWbC
set_option linter.unusedSimpArgs false
set_option linter.unusedVariables false
namespace Go.Proofs.YthkbiiammhekfaaGreatDoor.Dm
open Go Gw
set_option linter.unusedSimpArgs false
set_option linter.unusedSimpArgs false
namespace Wl

theorem Evt_pure (r : Evt) : pureL r.enc = true := by
 simp only [D.pure, pureL_cons, pureL_nil, Bool.and_self, Evt.enc, Lids_pure]
theorem Evts_pure (l : List Evt) : pureLL (l.map Evt.enc) = true := by
 induction l with
 | nil => rfl
 | cons f fs ih => rw [List.map_cons, pureLL_cons, ih, Evt_pure]; rfl
structure EvtB (e : Evt) : Prop where
 cl : e.x.cl.size ≤ 1048576
 eq : e.eq.size ≤ 1048576
 lid : ∀ w ∈ e.x.legs, w.Ok
 legs : e.x.legs.length ≤ 1048576
 fl : e.x.legsx = false
section
variable {n : Nat} {cfgs : List Cfg} {es : List Evt} {lx ex : Bool}
set_option maxHeartbeats 8000000 in
theorem big_c (hn : 3000100 ≤ n) (hc : ∀ c ∈ cfgs, Wb.CfgB c) (hcl : cfgs.length ≤ 1048576) (he : ∀ e ∈ es, EvtB e) (hel : es.length ≤ 1048576) :
  ∃ b, (b = false → cfgs.length ≤ 5 ∧ es.length ≤ 40 ∧ cfgL cfgs cfgs.length = [] ∧ ∀ e ∈ es, e.Ok) ∧ ∀ st S, callD E (dcall E n) st S 6 [.sl 2 (cfgs.map Cfg.enc) lx, .sl 8 (es.map Evt.enc) ex] = some (.bool b, S) := by
 obtain ⟨m, rfl⟩ : ∃ m, n = m + 1 := ⟨n - 1, by omega⟩
 have : WO (dcall E (m + 1) 6 [.sl 2 (cfgs.map Cfg.enc) lx, .sl 8 (es.map Evt.enc) ex] []) fun d T => ∃ b, d = .bool b ∧ (b = false → cfgs.length ≤ 5 ∧ es.length ≤ 40 ∧ cfgL cfgs cfgs.length = [] ∧ ∀ e ∈ es, e.Ok) := by
  refine wo_dcall Tryz.func6 rfl (by decide) rfl 51 rfl (fun a hal ha => ?_)
  have h0 : a[0]? = some (.sl 2 (cfgs.map Cfg.enc) lx) := ha 0 (by simp)
  have h1 : a[1]? = some (.sl 8 (es.map Evt.enc) ex) := ha 1 (by simp)
  clear ha
  by_cases c1 : (5 : Int) < cfgs.length
  ·simp (maxSteps := 1000000) (disch := omega) only [push_cast, ↓wc_seq, ↓wc_condL, ↓wc_region, ↓wr_cons, ↓wr_consgL, ↓wr_nil, ↓wo_pickL, ↓wc_ret, Nat.reduceAdd, Nat.reduceMul, Nat.reduceLT, Nat.reduceEqDiff, ↓reduceIte, Nat.reduceBEq, reduceCtorEq, gt_iff_lt, hal, h0, c1, Tryz.f6]
   exact ⟨true, rfl, fun h => by cases h⟩
  by_cases c2 : (40 : Int) < es.length
  ·simp (maxSteps := 1000000) (disch := omega) only [push_cast, ↓wc_seq, ↓wc_condL, ↓wc_region, ↓wr_cons, ↓wr_consgL, ↓wr_nil, ↓wo_pickL, ↓wc_ret, Nat.reduceAdd, Nat.reduceMul, Nat.reduceLT, Nat.reduceEqDiff, ↓reduceIte, Nat.reduceBEq, reduceCtorEq, gt_iff_lt, hal, h0, h1, c1, c2, Tryz.f6]
   exact ⟨true, rfl, fun h => by cases h⟩
  obtain ⟨x, fs, hx, hf, cx⟩ := Wb.rCheckW (n := m) (l := cfgs) (lx := lx) (by omega) (by omega) hc
  by_cases c3 : fs = []
  case neg =>
   obtain ⟨y, rfl⟩ : ∃ y, x = .sl 2 (fs.map encF) y := by
    rcases hx with ⟨-, h⟩ | h
    ·exact (c3 h).elim
    ·exact h
   have c4 : (0 : Int) < fs.length := by have := List.length_pos_iff.2 c3; omega
   simp (maxSteps := 1000000) (disch := omega) only [push_cast, ↓wc_seq, ↓wc_condL, ↓wc_region, ↓wr_cons, ↓wr_consgL, ↓wr_nil, ↓wo_pickL, ↓wo_callf, ↓wc_ret, Nat.reduceAdd, Nat.reduceMul, Nat.reduceLT, Nat.reduceEqDiff, ↓reduceIte, Nat.reduceBEq, reduceCtorEq, gt_iff_lt, hal, h0, h1, c1, c2, cx, c4, Tryz.f6]
   exact ⟨true, rfl, fun h => by cases h⟩
  subst c3
  obtain ⟨hf1, -⟩ := hf rfl
  refine wc_scut (fun a T => T = [] ∧ a.length = 51 ∧ a[0]? = some (.sl 2 (cfgs.map Cfg.enc) lx) ∧ a[1]? = some (.sl 8 (es.map Evt.enc) ex)) ?_ ?_
  ·simp (maxSteps := 1000000) (disch := omega) only [push_cast, ↓wc_region, ↓wr_cons, ↓wr_nil, Nat.reduceAdd, Nat.reduceMul, Nat.reduceEqDiff, ↓reduceIte, Nat.reduceBEq, reduceCtorEq, hal, h0, h1]
  clear hal h0 h1 a
  rintro a T ⟨rfl, hal, h0, h1⟩
  refine wc_scut (fun a T => T = [] ∧ a.length = 51 ∧ a[0]? = some (.sl 2 (cfgs.map Cfg.enc) lx) ∧ a[1]? = some (.sl 8 (es.map Evt.enc) ex)) ?_ ?_
  ·rcases hx with ⟨rfl, -⟩ | ⟨y, rfl⟩
   ·simp (maxSteps := 1000000) (disch := omega) only [push_cast, ↓wc_seq, ↓wc_condL, ↓wc_region, ↓wr_cons, ↓wr_consgL, ↓wr_nil, ↓wo_pickL, ↓wo_callf, ↓wc_skip, Nat.reduceAdd, Nat.reduceMul, Nat.reduceLT, Nat.reduceEqDiff, ↓reduceIte, Nat.reduceBEq, reduceCtorEq, gt_iff_lt, hal, h0, h1, c1, c2, cx, Int.lt_irrefl]
   ·simp (maxSteps := 1000000) (disch := omega) only [push_cast, ↓wc_seq, ↓wc_condL, ↓wc_region, ↓wr_cons, ↓wr_consgL, ↓wr_nil, ↓wo_pickL, ↓wo_callf, ↓wc_skip, Nat.reduceAdd, Nat.reduceMul, Nat.reduceLT, Nat.reduceEqDiff, ↓reduceIte, Nat.reduceBEq, reduceCtorEq, gt_iff_lt, hal, h0, h1, c1, c2, cx, Int.lt_irrefl, List.map_nil, Int.natCast_zero]
  clear hal h0 h1 a
  rintro a T ⟨rfl, hal, h0, h1⟩
  simp (maxSteps := 1000000) (disch := omega) only [push_cast, ↓wc_seq, ↓wc_block, ↓wc_region, ↓wr_cons, ↓wr_nil, ↓wc_wl, Nat.reduceAdd, Nat.reduceMul, ↓reduceIte, Nat.reduceBEq]
  refine wl_loop (fun i a T => (∀ e ∈ es.take i, e.Ok) ∧ a.length = 51 ∧ a[1]? = some (.sl 8 (es.map Evt.enc) ex) ∧ a[5]? = some (.int .i64 i)) es.length ?_ (by omega) ?_
  ·simp (maxSteps := 1000000) (disch := omega) only [push_cast, Nat.reduceLT, Nat.reduceEqDiff, ↓reduceIte, hal, h1, Int.natCast_zero, List.take_zero]
   exact fun e h => by cases h
  clear hal h0 h1 a
  rintro i a T hi ⟨hok, hal, h1, h5⟩
  rcases Nat.lt_or_eq_of_le hi with hlt | rfl
  case inr =>
   rw [List.take_length] at hok
   simp (maxSteps := 1000000) (disch := omega) only [push_cast, ↓wc_seq, ↓wc_condL, ↓wc_region, ↓wr_cons, ↓wr_nil, ↓wc_exit, ↓wc_ret, Nat.reduceAdd, Nat.reduceMul, Nat.reduceLT, Nat.reduceEqDiff, ↓reduceIte, Nat.reduceBEq, hal, h1, h5, Nat.lt_irrefl, Tryz.f6]
   exact ⟨_, rfl, fun _ => ⟨by omega, by omega, hf1, hok⟩⟩
  obtain ⟨e, hq⟩ : ∃ e, es[i]? = some e := ⟨es[i], by simp⟩
  have heb := he e (List.mem_of_getElem? hq)
  have b1 := heb.cl
  have b2 := heb.eq
  by_cases d1 : (6 : Int) < e.x.legs.length
  ·simp (maxSteps := 1000000) (disch := omega) only [push_cast, ↓wc_seq, ↓wc_block, ↓wc_condL, ↓wc_region, ↓wr_cons, ↓wr_consgL, ↓wr_nil, ↓wo_pickL, ↓wc_ret, ↓wc_skip, Nat.reduceAdd, Nat.reduceMul, Nat.reduceLT, Nat.reduceEqDiff, ↓reduceIte, Nat.reduceBEq, gt_iff_lt, hal, h1, h5, hlt, hq, d1, Evt.enc, Tryz.f6]
   exact ⟨true, rfl, fun h => by cases h⟩
  by_cases d2 : (100 : Int) < (e.x.cl.size : Int) + e.eq.size
  ·simp (maxSteps := 1000000) (disch := omega) only [push_cast, ↓wc_seq, ↓wc_block, ↓wc_condL, ↓wc_region, ↓wr_cons, ↓wr_consgL, ↓wr_nil, ↓wo_pickL, ↓wc_ret, ↓wc_skip, Nat.reduceAdd, Nat.reduceMul, Nat.reduceLT, Nat.reduceEqDiff, ↓reduceIte, Nat.reduceBEq, gt_iff_lt, hal, h1, h5, hlt, hq, d1, d2, Evt.enc, wrap_ok, Tryz.f6]
   exact ⟨true, rfl, fun h => by cases h⟩
  simp (maxSteps := 1000000) (disch := omega) only [push_cast, ↓wc_seq, ↓wc_block, ↓wc_condL, ↓wc_region, ↓wr_cons, ↓wr_consgL, ↓wr_nil, ↓wo_pickL, ↓wc_skip, Nat.reduceAdd, Nat.reduceMul, Nat.reduceLT, Nat.reduceEqDiff, ↓reduceIte, Nat.reduceBEq, gt_iff_lt, hal, h1, h5, hlt, hq, d1, d2, Evt.enc, wrap_ok, Int.natCast_add, Int.natCast_one]
  intro e' he'
  rw [List.take_add_one, hq] at he'
  rcases List.mem_append.1 he' with h | h
  ·exact hok e' h
  ·obtain rfl : e' = e := by simpa using h
   exact ⟨by omega, heb.lid, heb.fl⟩
 obtain ⟨d, T, ho, b, rfl, hb⟩ := this
 exact ⟨b, hb, fun st S => callD_pure rfl (by simp [pureL_cons, pureL_nil, D.pure, Cfgs_pure, Evts_pure]) ho rfl⟩
theorem init_c {S : List Ob} {lab : Lab} (hn : 3000100 ≤ n) (hl : cfgs.length ≤ 5) (hg : cfgL cfgs cfgs.length = []) (hc : ∀ c ∈ cfgs, Wb.CfgB c) (hf : FreshL S lab) :
  ∃ (p r k kr : Nat) (T1 T2 T3 T4 : List Ob) (lab' : Lab), (∀ st, callD E (dcall E n) st S 8 [.sl 2 (cfgs.map Cfg.enc) lx] = some (.tup [.loc p 0 0, .nils], T1)) ∧
   (∀ st, callD E (dcall E n) st T1 9 [.sl 2 (cfgs.map Cfg.enc) lx] = some (.tup [.loc r 0 0, .nils], T2)) ∧
   (∀ st, callD E (dcall E n) st T2 10 [] = some (.loc k 0 0, T3)) ∧
   (∀ st, callD E (dcall E n) st T3 11 [] = some (.loc kr 0 0, T4)) ∧
   St T4 lab' k kr p r (⟨cfgs, lx, []⟩, []) ∧ Inv cfgs 0 (⟨cfgs, lx, []⟩, []) := by
 have hgl := good_of (n := n - 1) (by omega) hg (fun c h => (hc c h).z (by omega))
 have hsm : ∀ c ∈ cfgs, Sm c := fun c hc => ((cfgs_ok hg).cfg c hc).sm
 obtain ⟨T1, lab1, p, cn, s1, st1⟩ := New_c (S := S) (lab := lab) (o := 1) (n := n) (lx := lx) (by omega) hgl hf
 obtain ⟨T2, lab2, r, cm, r2, st2⟩ := rNew_c (n := n) (o := 2) (lx := lx) (by omega) (by omega) hsm (fun c h => (hc c h).z (by omega)) hg s1.1
 obtain ⟨T3, lab3, ck, l3, st3⟩ := WNewP (n := n) (by omega) r2.1
 obtain ⟨T4, lab4, cr, l4, st4⟩ := RNewP (n := n) (by omega) st3.fresh
 refine ⟨p, r, T2.length, T3.length, T1, T2, T3, T4, lab4, cn, cm, ck, cr, ⟨l3.keep (st4.keepO (by decide)), l4, ((s1.other st2 (by decide)).other st3 (by decide)).other st4 (by decide), RAt.other (RAt.other r2 st3 (by decide)) st4 (by decide)⟩, ⟨good_nil (cfgs_ok hg), GoodW.nil, Nat.zero_le _, Nat.zero_le _, rfl⟩⟩
theorem Inv.at_ {A : Stk × List Wt} (h : Inv cfgs 0 A) (he : ∀ e ∈ es, e.Ok) : ∀ i, i ≤ es.length → Inv cfgs i (playE A (es.take i))
 | 0, _ => by rw [List.take_zero]; exact h
 | i + 1, hi => by
  obtain ⟨e, hq⟩ : ∃ e, es[i]? = some e := ⟨es[i], by simp⟩
  rw [playE_succ hq]
  exact inv_step (Inv.at_ h he i (by omega)) (he e (List.mem_of_getElem? hq))
set_option maxHeartbeats 32000000 in
set_option maxRecDepth 100000 in
theorem WaitlistPlays_d (hn : 3000200 ≤ n) (hc : ∀ c ∈ cfgs, Wb.CfgB c) (hcl : cfgs.length ≤ 1048576) (he : ∀ e ∈ es, EvtB e) (hel : es.length ≤ 1048576) :
  ∃ T, dcall E (n + 1) 3 [.sl 2 (cfgs.map Cfg.enc) lx, .sl 8 (es.map Evt.enc) ex] [] = some (.bool true, T) := by
 have cw := fun st S => awake19_n (n := n) (by omega) st S
 obtain ⟨b, hb, cb⟩ := big_c (n := n) (lx := lx) (ex := ex) (by omega) hc hcl he hel
 have : WO (dcall E (n + 1) 3 [.sl 2 (cfgs.map Cfg.enc) lx, .sl 8 (es.map Evt.enc) ex] []) fun d T => d = .bool true := by
  refine wo_dcall Tryz.func3 rfl (by decide) rfl 86 rfl (fun a hal ha => ?_)
  have h0 : a[0]? = some (.sl 2 (cfgs.map Cfg.enc) lx) := ha 0 (by simp)
  have h1 : a[1]? = some (.sl 8 (es.map Evt.enc) ex) := ha 1 (by simp)
  clear ha
  cases b
  case true =>
   simp (maxSteps := 1000000) (disch := omega) only [push_cast, ↓wc_seq, ↓wc_condL, ↓wc_region, ↓wr_cons, ↓wr_nil, ↓wo_callf, ↓wc_ret, Nat.reduceAdd, Nat.reduceMul, Nat.reduceLT, Nat.reduceEqDiff, ↓reduceIte, Nat.reduceBEq, reduceCtorEq, hal, h0, h1, cb, cw, Tryz.f3]
  obtain ⟨hc5, he40, hg, hev⟩ := hb rfl
  obtain ⟨p, r, k, kr, T1, T2, T3, T4, lab4, c1, c2, c3, c4, hSt, hInv⟩ := init_c (n := n) (lx := lx) (S := []) (lab := fun _ => []) (by omega) hc5 hg hc (fun _ _ => rfl)
  have hinv := fun i (hi : i ≤ es.length) => hInv.at_ (es := es) hev i hi
  generalize hA0 : ((⟨cfgs, lx, []⟩, []) : Stk × List Wt) = A0 at *
  simp (maxSteps := 1000000) (disch := omega) only [push_cast, ↓wc_seq, ↓wc_block, ↓wc_condL, ↓wc_region, ↓wr_cons, ↓wr_nil, ↓wo_callf, ↓wc_skip, ↓wc_wl, Nat.reduceAdd, Nat.reduceMul, Nat.reduceLT, Nat.reduceEqDiff, ↓reduceIte, Nat.reduceBEq, reduceCtorEq, hal, h0, h1, cb, c1, c2, c3, c4]
  refine wl_loop (fun i a T => (∃ lab', St T lab' k kr p r (playE A0 (es.take i))) ∧ a.length = 86 ∧ a[1]? = some (.sl 8 (es.map Evt.enc) ex) ∧ a[5]? = some (.loc p 0 0) ∧ a[7]? = some (.loc r 0 0) ∧ a[9]? = some (.loc k 0 0) ∧ a[10]? = some (.loc kr 0 0) ∧ a[11]? = some (.int .i64 i)) es.length ?_ (by omega) ?_
  ·simp (maxSteps := 1000000) (disch := omega) only [push_cast, Nat.reduceLT, Nat.reduceEqDiff, ↓reduceIte, hal, h1, Int.natCast_zero, List.take_zero]
   exact ⟨lab4, hSt⟩
  clear hal h0 h1 a
  rintro i a T hi ⟨⟨lab', hS⟩, hal, h1, h5, h7, h9, h10, h11⟩
  rcases Nat.lt_or_eq_of_le hi with hlt | rfl
  case inr =>
   simp (maxSteps := 1000000) (disch := omega) only [push_cast, ↓wc_seq, ↓wc_condL, ↓wc_region, ↓wr_cons, ↓wr_nil, ↓wo_callf, ↓wc_exit, ↓wc_ret, Nat.reduceAdd, Nat.reduceMul, Nat.reduceLT, Nat.reduceEqDiff, ↓reduceIte, Nat.reduceBEq, hal, h1, h11, Nat.lt_irrefl, cw, Tryz.f3]
  obtain ⟨e, hq⟩ : ∃ e, es[i]? = some e := ⟨es[i], by simp⟩
  have heo := hev e (List.mem_of_getElem? hq)
  have hsucc := playE_succ (a := A0) hq
  have hi1 := hinv i (by omega)
  have hi2 := hinv (i + 1) (by omega)
  rw [hsucc] at hi2
  obtain ⟨T2', lab2, cd, hS2⟩ := does_c (n := n) (by omega) hS hi1 (by omega) heo (by omega)
  generalize hA : stepF (playE A0 (es.take i)) e = A at *
  have hln := hi2.n
  have hlm := hi2.m
  obtain ⟨d', J, hO, co⟩ := OrderP (n := n) (by omega) (by omega) hS2.pl
  obtain ⟨dd, hG, cor⟩ := OrderR (n := n) (by omega) (hS2.rl.push J)
  have csm := fun st => same_c (n := n) (st := st) (by omega) (by omega) (fun y hy => by have := (hi2.w.ok y hy).2.1; omega) hO.lst (GL.lst hG)
  obtain ⟨T5, hT5⟩ : ∃ T5, T5 = T2' ++ J ++ [Ob.row 5 [e.x.enc]] := ⟨_, rfl⟩
  have hS5 : St T5 lab2 k kr p r A := by rw [hT5]; exact (hS2.push J).push _
  have g5 : T5[(T2' ++ J).length]? = some (.row 5 [e.x.enc]) := by rw [hT5]; exact get_end
  simp only [Evt.enc] at cd
  simp only [Wt.enc] at hT5 g5
  refine wc_scut (fun a V => V = T ∧ a.length = 86 ∧ a[1]? = some (.sl 8 (es.map Evt.enc) ex) ∧ a[5]? = some (.loc p 0 0) ∧ a[7]? = some (.loc r 0 0) ∧ a[9]? = some (.loc k 0 0) ∧ a[10]? = some (.loc kr 0 0) ∧ a[11]? = some (.int .i64 i)) ?_ ?_
  ·simp (maxSteps := 1000000) (disch := omega) only [push_cast, ↓wc_seq, ↓wc_condL, ↓wc_region, ↓wr_cons, ↓wr_nil, ↓wc_skip, Nat.reduceAdd, Nat.reduceMul, Nat.reduceLT, Nat.reduceEqDiff, ↓reduceIte, Nat.reduceBEq, hal, h1, h5, h7, h9, h10, h11, hlt]
  clear hal h1 h5 h7 h9 h10 h11 a
  rintro a V ⟨rfl, hal, h1, h5, h7, h9, h10, h11⟩
  rw [wc_seq, wc_block]
  refine wc_scut (fun a W => W = T2' ++ J ∧ a.length = 86 ∧ a[1]? = some (.sl 8 (es.map Evt.enc) ex) ∧ a[5]? = some (.loc p 0 0) ∧ a[7]? = some (.loc r 0 0) ∧ a[9]? = some (.loc k 0 0) ∧ a[10]? = some (.loc kr 0 0) ∧ a[11]? = some (.int .i64 i)) ?_ ?_
  ·simp (maxSteps := 1000000) (disch := omega) only [push_cast, ↓wc_seq, ↓wc_condL, ↓wc_region, ↓wr_cons, ↓wr_consgL, ↓wr_nil, ↓wo_pickL, ↓wo_callf, ↓wc_skip, Nat.reduceAdd, Nat.reduceMul, Nat.reduceLT, Nat.reduceLeDiff, Nat.reduceEqDiff, ↓reduceIte, Nat.reduceBEq, hal, h1, h5, h7, h9, h10, h11, hq, cd, co, cor, csm, dUn, Bool.not_true, Evt.enc]
  clear hal h1 h5 h7 h9 h10 h11 a
  rintro a W ⟨rfl, hal, h1, h5, h7, h9, h10, h11⟩
  refine wc_scut (fun a W => W = T5 ∧ a.length = 86 ∧ a[1]? = some (.sl 8 (es.map Evt.enc) ex) ∧ a[5]? = some (.loc p 0 0) ∧ a[7]? = some (.loc r 0 0) ∧ a[9]? = some (.loc k 0 0) ∧ a[10]? = some (.loc kr 0 0) ∧ a[11]? = some (.int .i64 i) ∧ a[12]? = some (.loc (T2' ++ J).length 0 0)) ?_ ?_
  ·simp (maxSteps := 1000000) (disch := omega) only [push_cast, ↓wc_region, ↓wr_cons, ↓wr_nil, Nat.reduceAdd, Nat.reduceMul, Nat.reduceLT, Nat.reduceLeDiff, Nat.reduceEqDiff, ↓reduceIte, Nat.reduceBEq, hal, h1, h5, h7, h9, h10, h11, hq, set_end, get_end, Evt.enc]
   exact hT5.symm
  clear hal h1 h5 h7 h9 h10 h11 a
  rintro a W ⟨rfl, hal, h1, h5, h7, h9, h10, h11, h12⟩
  have hll := heo.legs
  have cl1 := fun id (hid : id ∈ e.x.legs) st => SLeft_c (n := n) (id := id) (by omega) hS5.ss hi2.s.ok9 (heo.lid id hid) e.x.cl st
  have cl2 := fun id st => RLeft_c (n := n) (id := id) (by omega) hS5.rs hi2.s.ok9 (by omega) (by rw [hi2.l]; omega) e.x.cl st
  simp (maxSteps := 1000000) (disch := omega) only [push_cast, ↓wc_seq, ↓wc_block, ↓wc_region, ↓wr_cons, ↓wr_nil, ↓wc_wl, Nat.reduceAdd, Nat.reduceMul, ↓reduceIte, Nat.reduceBEq]
  refine wl_loop (fun j a U => U = W ∧ a.length = 86 ∧ a[1]? = some (.sl 8 (es.map Evt.enc) ex) ∧ a[5]? = some (.loc p 0 0) ∧ a[7]? = some (.loc r 0 0) ∧ a[9]? = some (.loc k 0 0) ∧ a[10]? = some (.loc kr 0 0) ∧ a[11]? = some (.int .i64 i) ∧ a[12]? = some (.loc (T2' ++ J).length 0 0) ∧ a[13]? = some (.int .i64 j)) e.x.legs.length ?_ (by omega) ?_
  ·simp (maxSteps := 1000000) (disch := omega) only [push_cast, Nat.reduceLT, Nat.reduceEqDiff, ↓reduceIte, hal, h1, h5, h7, h9, h10, h11, h12, Int.natCast_zero]
  clear hal h1 h5 h7 h9 h10 h11 h12 a
  rintro j a U hj ⟨rfl, hal, h1, h5, h7, h9, h10, h11, h12, h13⟩
  rcases Nat.lt_or_eq_of_le hj with hjl | rfl
  case inr =>
   simp (maxSteps := 1000000) (disch := omega) only [push_cast, ↓wc_seq, ↓wc_condL, ↓wc_region, ↓wr_cons, ↓wr_nil, ↓wc_exit, Nat.reduceAdd, Nat.reduceMul, Nat.reduceLT, Nat.reduceEqDiff, ↓reduceIte, Nat.reduceBEq, hal, h1, h5, h7, h9, h10, h11, h12, h13, g5, Nat.lt_irrefl, wrap_ok, Int.natCast_add, Int.natCast_one]
   rw [hsucc]
   exact ⟨hlt, lab2, hS5⟩
  obtain ⟨w, hw⟩ : ∃ w, e.x.legs[j]? = some w := ⟨e.x.legs[j], by simp⟩
  have cl1 := cl1 w (List.mem_of_getElem? hw)
  have cl2 := cl2 w
  generalize A.1.left w e.x.cl = lf at *
  simp only [Lid.enc] at cl1 cl2
  simp (maxSteps := 1000000) (disch := omega) only [push_cast, ↓wc_seq, ↓wc_block, ↓wc_condL, ↓wc_region, ↓wr_cons, ↓wr_nil, ↓wo_callf, ↓wc_skip, Nat.reduceAdd, Nat.reduceMul, Nat.reduceLT, Nat.reduceLeDiff, Nat.reduceEqDiff, ↓reduceIte, Nat.reduceBEq, hal, h1, h5, h7, h9, h10, h11, h12, h13, g5, hjl, hw, cl1, cl2, Lid.enc, bne_self_eq_false, wrap_ok, Int.natCast_add, Int.natCast_one]
 obtain ⟨d, T, ho, rfl⟩ := this
 exact ⟨T, ho⟩
end
end Wl
end Go.Proofs.YthkbiiammhekfaaGreatDoor.Dm
