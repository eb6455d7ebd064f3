/-
  The law WaitlistClears: the plain law, and its walk on data.
  The walk of WaitlistClears.
-/
import Derived.Test.YthkbiiammhekfaaGreatDoorWpK
import Derived.Test.YthkbiiammhekfaaGreatDoorWpL
set_option linter.unusedSimpArgs false
set_option linter.unusedVariables false
namespace Go.Proofs.YthkbiiammhekfaaGreatDoor.Dm
open Go Gw
set_option linter.unusedSimpArgs false
set_option linter.unusedSimpArgs false
namespace Wl

theorem clr_grow (s : Stk) (l : List Wt) (b : List Wt) : ∃ o r, (clrF s (l ++ b)).1 = (clrF s l).1 ++ o ∧ (clrF s (l ++ b)).2.1 = (clrF s l).2.1 ++ r := by
 induction b using list_rev with
 | h0 => exact ⟨[], [], by simp, by simp⟩
 | h1 b y ih =>
  obtain ⟨o, r, h1, h2⟩ := ih
  rw [← List.append_assoc, clrF_snoc]
  unfold clrS
  split
  ·exact ⟨o ++ [y], r, by rw [h1, List.append_assoc], h2⟩
  ·exact ⟨o, r ++ [y], h1, by rw [h2, List.append_assoc]⟩
theorem clr_perm (s : Stk) (l : List Wt) : ((clrF s l).1 ++ (clrF s l).2.1).Perm l := by
 induction l using list_rev with
 | h0 => exact List.Perm.refl _
 | h1 l y ih =>
  rw [clrF_snoc]
  unfold clrS
  split
  ·have : ((clrF s l).1 ++ [y] ++ (clrF s l).2.1).Perm ((clrF s l).1 ++ (clrF s l).2.1 ++ [y]) := by
    rw [List.append_assoc, List.append_assoc]
    exact List.Perm.append_left _ List.perm_append_comm
   exact this.trans (List.Perm.append_right _ ih)
  ·rw [← List.append_assoc]
   exact List.Perm.append_right _ ih
theorem clr_next {s : Stk} {l : List Wt} (hg : GoodW l) {n : Nat} {y : Wt} (hy : l[n]? = some y) :
  ((clrF s (l.take (n + 1))).1.length = (clrF s (l.take n)).1.length + 1 ∧ (clrF s (l.take (n + 1))).2.1.length = (clrF s (l.take n)).2.1.length ∧ (clrF s l).1[(clrF s (l.take n)).1.length]? = some y) ∨
  ((clrF s (l.take (n + 1))).1.length = (clrF s (l.take n)).1.length ∧ (clrF s (l.take (n + 1))).2.1.length = (clrF s (l.take n)).2.1.length + 1 ∧ (clrF s l).2.1[(clrF s (l.take n)).2.1.length]? = some y ∧ ∀ z, (clrF s l).1[(clrF s (l.take n)).1.length]? = some z → z.id ≠ y.id) := by
 obtain ⟨o, r, g1, g2⟩ := clr_grow s (l.take (n + 1)) (l.drop (n + 1))
 rw [List.take_append_drop] at g1 g2
 have hs := clrF_succ (s := s) hy
 have hnd : (((clrF s l).1 ++ (clrF s l).2.1).map (·.id)).Nodup := ((clr_perm s l).map (·.id)).nodup_iff.2 hg.nd
 generalize hA : clrF s (l.take n) = A at *
 unfold clrS at hs
 split at hs
 ·left
  rw [hs] at g1 g2 ⊢
  refine ⟨by simp, rfl, ?_⟩
  rw [g1]
  simp
 ·right
  rw [hs] at g1 g2 ⊢
  have hr : (clrF s l).2.1[A.2.1.length]? = some y := by rw [g2]; simp
  refine ⟨rfl, by simp, hr, fun z hz e => ?_⟩
  rw [List.map_append, List.nodup_append] at hnd
  exact hnd.2.2 _ (List.mem_map.2 ⟨z, List.mem_of_getElem? hz, rfl⟩) _ (List.mem_map.2 ⟨y, List.mem_of_getElem? hr, rfl⟩) e
section
variable {n : Nat} {S : List Ob} {lab : Lab} {cfgs : List Cfg} {es : List Evt} {lx ex : Bool}
set_option maxHeartbeats 8000000 in
set_option maxRecDepth 100000 in
theorem played_d (hn : 3000150 ≤ n) (hc5 : cfgs.length ≤ 5) (he40 : es.length ≤ 40) (hg : cfgL cfgs cfgs.length = []) (hc : ∀ c ∈ cfgs, Wb.CfgB c) (hev : ∀ e ∈ es, e.Ok) (hf : FreshL S lab) :
  WO (dcall E (n + 1) 18 [.sl 2 (cfgs.map Cfg.enc) lx, .sl 8 (es.map Evt.enc) ex] S) fun d T => ∃ k kr p r lab', d = .tup [.loc k 0 0, .loc p 0 0] ∧ St T lab' k kr p r (playE (⟨cfgs, lx, []⟩, []) es) ∧ Inv cfgs es.length (playE (⟨cfgs, lx, []⟩, []) es) := by
 obtain ⟨p, r, k, kr, T1, T2, T3, T4, lab4, c1, c2, c3, c4, hSt, hInv⟩ := init_c (n := n) (lx := lx) (S := S) (lab := lab) (by omega) hc5 hg hc hf
 have hinv := fun i (hi : i ≤ es.length) => hInv.at_ (es := es) hev i hi
 generalize hA0 : ((⟨cfgs, lx, []⟩, []) : Stk × List Wt) = A0 at *
 refine wo_dcall Tryz.func18 rfl (by decide) rfl 42 rfl (fun a hal ha => ?_)
 have h0 : a[0]? = some (.sl 2 (cfgs.map Cfg.enc) lx) := ha 0 (by simp)
 have h1 : a[1]? = some (.sl 8 (es.map Evt.enc) ex) := ha 1 (by simp)
 clear ha
 simp (maxSteps := 1000000) (disch := omega) only [push_cast, ↓wc_seq, ↓wc_block, ↓wc_region, ↓wr_cons, ↓wr_nil, ↓wo_callf, ↓wc_wl, Nat.reduceAdd, Nat.reduceMul, Nat.reduceLT, Nat.reduceEqDiff, ↓reduceIte, Nat.reduceBEq, reduceCtorEq, hal, h0, c1, c2, c3, c4]
 refine wl_loop (fun i a T => (∃ lab', St T lab' k kr p r (playE A0 (es.take i))) ∧ a.length = 42 ∧ a[1]? = some (.sl 8 (es.map Evt.enc) ex) ∧ a[6]? = some (.loc p 0 0) ∧ a[8]? = some (.loc r 0 0) ∧ a[10]? = some (.loc k 0 0) ∧ a[11]? = some (.loc kr 0 0) ∧ a[12]? = some (.int .i64 i)) es.length ?_ (by omega) ?_
 ·simp (maxSteps := 1000000) (disch := omega) only [push_cast, Nat.reduceLT, Nat.reduceEqDiff, ↓reduceIte, hal, h1, Int.natCast_zero, List.take_zero]
  exact ⟨lab4, hSt⟩
 clear hal h0 h1 a
 rintro i a T hi ⟨⟨lab', hS⟩, hal, h1, h6, h8, h10, h11, h12⟩
 rcases Nat.lt_or_eq_of_le hi with hlt | rfl
 case inr =>
  have := hinv es.length (Nat.le_refl _)
  rw [List.take_length] at hS this
  simp (maxSteps := 1000000) (disch := omega) only [push_cast, ↓wc_seq, ↓wc_condL, ↓wc_region, ↓wr_cons, ↓wr_nil, ↓wc_exit, ↓wc_ret, Nat.reduceAdd, Nat.reduceMul, Nat.reduceLT, Nat.reduceEqDiff, ↓reduceIte, Nat.reduceBEq, hal, h1, h6, h10, h12, Nat.lt_irrefl, Tryz.f18]
  exact ⟨k, kr, p, r, lab', rfl, hS, this⟩
 obtain ⟨e, hq⟩ : ∃ e, es[i]? = some e := ⟨es[i], by simp⟩
 have heo := hev e (List.mem_of_getElem? hq)
 have hsucc := playE_succ (a := A0) hq
 have hi1 := hinv i (by omega)
 obtain ⟨T2', lab2, cd, hS2⟩ := does_c (n := n) (by omega) hS hi1 (by omega) heo (by omega)
 simp only [Evt.enc] at cd
 simp (maxSteps := 1000000) (disch := omega) only [push_cast, ↓wc_seq, ↓wc_block, ↓wc_condL, ↓wc_region, ↓wr_cons, ↓wr_nil, ↓wo_callf, ↓wc_skip, Nat.reduceAdd, Nat.reduceMul, Nat.reduceLT, Nat.reduceLeDiff, Nat.reduceEqDiff, ↓reduceIte, Nat.reduceBEq, hal, h1, h6, h8, h10, h11, h12, hlt, hq, cd, Evt.enc, wrap_ok, Int.natCast_add, Int.natCast_one]
 rw [hsucc]
 exact ⟨lab2, hS2⟩
def LstU (S : List Ob) (lab : Lab) (d : D) (l : List Wt) : Prop := Lst S d l ∧ ∀ q n x, d = .os q 0 n x → lab q = []
theorem LstU.keep {os : List Nat} {S T : List Ob} {lab lab' : Lab} {d : D} {l : List Wt} (h : LstU S lab d l) (g : StepL os S lab T lab') : LstU T lab' d l := by
 obtain ⟨h1, h2⟩ := h
 rcases h1 with ⟨h0, rfl | rfl | ⟨q, es, rfl, e2⟩⟩ | ⟨h0, q, rfl, e2⟩
 ·exact ⟨.inl ⟨h0, .inl rfl⟩, fun q n x e => by cases e⟩
 ·exact ⟨.inl ⟨h0, .inr (.inl rfl)⟩, fun q n x e => by cases e⟩
 ·obtain ⟨v1, v2⟩ := g.free e2 (h2 _ _ _ rfl)
  exact ⟨.inl ⟨h0, .inr (.inr ⟨q, es, rfl, v1⟩)⟩, fun q' n x e => by cases e; exact v2⟩
 ·obtain ⟨v1, v2⟩ := g.free e2 (h2 _ _ _ rfl)
  exact ⟨.inr ⟨h0, q, rfl, v1⟩, fun q' n x e => by cases e; exact v2⟩
theorem LstU.push {S : List Ob} {lab : Lab} {d : D} {l : List Wt} (h : LstU S lab d l) (J : List Ob) : LstU (S ++ J) lab d l := ⟨h.1.push J, h.2⟩
theorem OrderU {k : Nat} {l : List Wt} (hn : 2 ≤ n) (hl : l.length ≤ 900) (hf : FreshL S lab) (h : PLi S lab k l) : ∃ d' J, LstU (S ++ J) lab d' l ∧ ∀ st, callD E (dcall E n) st S 14 [.loc k 0 0] = some (d', S ++ J) := by
 obtain ⟨d, h1, h2, -, -⟩ := h
 obtain ⟨d', J, hO, hJ, co⟩ := OrderL' hn (by omega) h1 h2
 refine ⟨d', J, ⟨hO.lst, fun q n x e => ?_⟩, co⟩
 by_cases hl0 : l = []
 ·rcases hO with ⟨-, hd | hd⟩ | ⟨h, -⟩
  ·rw [hd] at e; cases e
  ·rw [hd] at e; cases e
  ·exact (h hl0).elim
 ·rw [(hJ hl0).2] at e
  cases e
  exact hf _ (Nat.le_refl _)
theorem lst_len {d : D} {l : List Wt} (h : Lst S d l) : dLen Tryz.prog S 44 d = some (.int .i64 l.length) := by
 rcases h with ⟨rfl, rfl | rfl | ⟨q, es, rfl, -⟩⟩ | ⟨-, q, rfl, -⟩ <;> simp only [dLen, unW] <;> rfl
def okB (s : Stk) (l : List Wt) : Bool := (nextE s l).2
set_option maxHeartbeats 64000000 in
set_option maxRecDepth 100000 in
theorem WaitlistClears_d (hn : 3000300 ≤ n) (hc : ∀ c ∈ cfgs, Wb.CfgB c) (hcl : cfgs.length ≤ 1048576) (he : ∀ e ∈ es, EvtB e) (hel : es.length ≤ 1048576) :
  ∃ T, dcall E (n + 1) 4 [.sl 2 (cfgs.map Cfg.enc) lx, .sl 8 (es.map Evt.enc) ex] [] = some (.bool true, T) := by
 have cw := fun st S => awake19_n (n := n) (by omega) st S
 obtain ⟨b, hb, cb⟩ := big_c (n := n) (lx := lx) (ex := ex) (by omega) hc hcl he hel
 have : WO (dcall E (n + 1) 4 [.sl 2 (cfgs.map Cfg.enc) lx, .sl 8 (es.map Evt.enc) ex] []) fun d T => d = .bool true := by
  refine wo_dcall Tryz.func4 rfl (by decide) rfl 121 rfl (fun a hal ha => ?_)
  have h0 : a[0]? = some (.sl 2 (cfgs.map Cfg.enc) lx) := ha 0 (by simp)
  have h1 : a[1]? = some (.sl 8 (es.map Evt.enc) ex) := ha 1 (by simp)
  clear ha
  cases b
  case true =>
   simp (maxSteps := 1000000) (disch := omega) only [push_cast, ↓wc_seq, ↓wc_condL, ↓wc_region, ↓wr_cons, ↓wr_nil, ↓wo_callf, ↓wc_ret, Nat.reduceAdd, Nat.reduceMul, Nat.reduceLT, Nat.reduceEqDiff, ↓reduceIte, Nat.reduceBEq, reduceCtorEq, hal, h0, h1, cb, cw, Tryz.f4]
  obtain ⟨hc5, he40, hg, hev⟩ := hb rfl
  obtain ⟨dp, T, cp, k, kr, p, r, lab, hdp, hSt, hInv⟩ := gen_of (n := n) (S := []) (by omega) rfl (played_d (n := n - 1) (lx := lx) (ex := ex) (lab := fun _ => []) (by omega) hc5 he40 hg hc hev (fun _ _ => rfl))
  subst hdp
  generalize playE (⟨cfgs, lx, []⟩, []) es = A at *
  obtain ⟨s, l⟩ := A
  have hln := hInv.n
  have hlm := hInv.m
  have hgs := hInv.s
  have hgw := hInv.w
  dsimp only at hln hlm hgs hgw
  have hf := hSt.ss.1
  obtain ⟨d1, J1, u1, co1⟩ := OrderU (n := n) (l := l) (by omega) (by omega) hf hSt.pl
  obtain ⟨T1, hT1⟩ : ∃ T1, T1 = T ++ J1 := ⟨_, rfl⟩
  rw [← hT1] at u1 co1
  have S1 : St T1 lab k kr p r (s, l) := by rw [hT1]; exact hSt.push _
  have cn1 := fun st => NextP (n := n) (by omega) (by omega) hgw S1.pl S1.ss hgs st
  obtain ⟨X1, hX1⟩ : ∃ X1, X1 = T1 ++ [Ob.row 5 [(nextE s l).1]] := ⟨_, rfl⟩
  have x1 : X1[T1.length]? = some (.row 5 [(nextE s l).1]) := by rw [hX1]; exact get_end
  have lx1 : lab T1.length = [] := S1.ss.1 _ (Nat.le_refl _)
  have SX : St X1 lab k kr p r (s, l) := by rw [hX1]; exact S1.push _
  have uX : LstU X1 lab d1 l := by rw [hX1]; exact u1.push _
  obtain ⟨d2, T3, lab3, cc, gu, pl3, ss3, st3⟩ := ClearP (n := n) (by omega) (by omega) hgw SX.pl SX.ss hgs
  have u3 := uX.keep st3
  have x3 := (st3.free x1 lx1).1
  have g3 : LstU T3 lab3 d2 (clrF s l).1 := ⟨gu.lst, fun q n x e => (gu.2 q n x e).1⟩
  obtain ⟨hs1, hs2, hs3⟩ := clr_sub s l
  have hgs3 := (clr_good hgs l).1
  have hnone := clr_none hgs l
  have hg3 := hgw.sub hs2
  have cn2 := fun st => NextP (n := n) (by have := hs2.length_le; omega) (by have := hs2.length_le; omega) hg3 pl3 ss3 hgs3 st
  have hnx : nextE (clrF s l).2.2 (clrF s l).2.1 = (zW, false) := by
   unfold nextE
   rw [List.find?_eq_none.2 fun y hy => by rw [hnone y hy]; simp]
  dsimp only at cn2 pl3 ss3
  rw [hnx] at cn2
  obtain ⟨X3, hX3⟩ : ∃ X3, X3 = T3 ++ [Ob.row 5 [zW]] := ⟨_, rfl⟩
  have hset3 : X3.set T3.length (.row 5 [zW]) = X3 := set_self (by rw [hX3]; exact get_end)
  have hget3 : X3[T3.length]? = some (.row 5 [zW]) := by rw [hX3]; exact get_end
  have plX : PLi X3 lab3 k (clrF s l).2.1 := by rw [hX3]; exact pl3.push _
  have fX : FreshL X3 lab3 := by rw [hX3]; exact ss3.1.push _
  obtain ⟨d4, J4, u4, co4⟩ := OrderU (n := n) (by omega) (by have := hs2.length_le; omega) fX plX
  obtain ⟨T5, hT5⟩ : ∃ T5, T5 = X3 ++ J4 := ⟨_, rfl⟩
  rw [← hT5] at u4 co4
  have u5 : LstU T5 lab3 d1 l := by rw [hT5, hX3]; exact (u3.push _).push _
  have g5 : LstU T5 lab3 d2 (clrF s l).1 := by rw [hT5, hX3]; exact (g3.push _).push _
  have x5 : T5[T1.length]? = some (.row 5 [(nextE s l).1]) := by rw [hT5, hX3]; exact get_psh (get_psh x3 _) _
  have n1 := lst_len u5.1
  have n2 := lst_len g5.1
  have n4 := lst_len u4.1
  simp (maxSteps := 1000000) (disch := omega) only [push_cast] at n1
  simp (maxSteps := 1000000) (disch := omega) only [push_cast] at n2
  simp (maxSteps := 1000000) (disch := omega) only [push_cast] at n4
  have htwo : (nextE s l = (zW, false) ∧ (clrF s l).1 = []) ∨ ∃ y o, nextE s l = (y.enc, true) ∧ (clrF s l).1 = y :: o := by
   unfold nextE
   cases hfi : l.find? fun y => servedF s y with
   | none =>
    have : clrF s l = ([], l, s) := clr_no fun y hy => by simpa using List.find?_eq_none.1 hfi y hy
    rw [this]; exact .inl ⟨rfl, rfl⟩
   | some y =>
    obtain ⟨i, e1, e2, e3⟩ := find_at hfi
    obtain ⟨o, ho⟩ := clr_head e1 e2 e3
    exact .inr ⟨y, o, rfl, ho⟩
  have hsum : IntKind.i64.wrap (((clrF s l).1.length : Int) + (clrF s l).2.1.length) = l.length := by
   rw [wrap_ok (by omega) (by omega)]; omega
  have hcn := fun (i : Nat) y (h : l[i]? = some y) => clr_next (s := s) hgw h
  have hc0 : (clrF s (l.take 0)).1.length = 0 ∧ (clrF s (l.take 0)).2.1.length = 0 := ⟨rfl, rfl⟩
  refine wc_scut (fun a V => V = [] ∧ a.length = 121 ∧ a[0]? = some (.sl 2 (cfgs.map Cfg.enc) lx) ∧ a[1]? = some (.sl 8 (es.map Evt.enc) ex)) ?_ ?_
  ·simp (maxSteps := 1000000) (disch := omega) only [push_cast, ↓wc_region, ↓wr_cons, ↓wr_nil, Nat.reduceAdd, Nat.reduceMul, Nat.reduceEqDiff, ↓reduceIte, Nat.reduceBEq, reduceCtorEq, hal, h0, h1]
  clear hal h0 h1 a
  rintro a V ⟨rfl, hal, h0, h1⟩
  refine wc_scut (fun a V => V = [] ∧ a.length = 121 ∧ a[0]? = some (.sl 2 (cfgs.map Cfg.enc) lx) ∧ a[1]? = some (.sl 8 (es.map Evt.enc) ex)) ?_ ?_
  ·simp (maxSteps := 1000000) (disch := omega) only [push_cast, ↓wc_seq, ↓wc_condL, ↓wc_region, ↓wr_cons, ↓wr_nil, ↓wo_callf, ↓wc_skip, Nat.reduceAdd, Nat.reduceMul, Nat.reduceLT, Nat.reduceEqDiff, ↓reduceIte, Nat.reduceBEq, reduceCtorEq, hal, h0, h1, cb]
  clear hal h0 h1 a
  rintro a V ⟨rfl, hal, h0, h1⟩
  refine wc_scut (fun a V => V = T ∧ a.length = 121 ∧ a[5]? = some (.loc k 0 0) ∧ a[6]? = some (.loc p 0 0)) ?_ ?_
  ·simp (maxSteps := 1000000) (disch := omega) only [push_cast, ↓wc_region, ↓wr_cons, ↓wr_nil, ↓wo_callf, Nat.reduceAdd, Nat.reduceMul, Nat.reduceLT, Nat.reduceEqDiff, ↓reduceIte, Nat.reduceBEq, hal, h0, h1, cp]
  clear hal h0 h1 a
  rintro a V ⟨rfl, hal, h5, h6⟩
  refine wc_scut (fun a V => V = T1 ∧ a.length = 121 ∧ a[5]? = some (.loc k 0 0) ∧ a[6]? = some (.loc p 0 0) ∧ a[7]? = some (d1)) ?_ ?_
  ·simp (maxSteps := 1000000) (disch := omega) only [push_cast, ↓wc_region, ↓wr_cons, ↓wr_nil, ↓wo_callf, Nat.reduceAdd, Nat.reduceMul, Nat.reduceLT, Nat.reduceEqDiff, ↓reduceIte, Nat.reduceBEq, hal, h5, h6, co1]
  clear hal h5 h6 a
  rintro a W ⟨rfl, hal, h5, h6, h7⟩
  refine wc_scut (fun a V => V = X1 ∧ a.length = 121 ∧ a[5]? = some (.loc k 0 0) ∧ a[6]? = some (.loc p 0 0) ∧ a[7]? = some (d1) ∧ a[8]? = some (.loc W.length 0 0) ∧ a[9]? = some (.bool (nextE s l).2)) ?_ ?_
  ·rcases htwo with ⟨hz, -⟩ | ⟨y, o, hz, -⟩
   ·rw [hz] at cn1 hX1 x1 ⊢
    have ex1 := set_self x1
    simp only [zW] at cn1 hX1 x1 ex1
    simp (maxSteps := 1000000) (disch := omega) only [push_cast, ↓wc_region, ↓wr_cons, ↓wr_nil, ↓wo_callf, Nat.reduceAdd, Nat.reduceMul, Nat.reduceLT, Nat.reduceLeDiff, Nat.reduceEqDiff, ↓reduceIte, Nat.reduceBEq, hal, h5, h6, h7, cn1, hX1.symm, x1, ex1]
   ·rw [hz] at cn1 hX1 x1 ⊢
    simp only [Wt.enc] at cn1 hX1
    simp (maxSteps := 1000000) (disch := omega) only [push_cast, ↓wc_region, ↓wr_cons, ↓wr_nil, ↓wo_callf, Nat.reduceAdd, Nat.reduceMul, Nat.reduceLT, Nat.reduceLeDiff, Nat.reduceEqDiff, ↓reduceIte, Nat.reduceBEq, hal, h5, h6, h7, cn1, get_end, set_end]
    exact hX1.symm
  clear hal h5 h6 h7 a
  rintro a V ⟨rfl, hal, h5, h6, h7, h8, h9⟩
  refine wc_scut (fun a V => V = T3 ∧ a.length = 121 ∧ a[5]? = some (.loc k 0 0) ∧ a[6]? = some (.loc p 0 0) ∧ a[7]? = some (d1) ∧ a[8]? = some (.loc W.length 0 0) ∧ a[9]? = some (.bool (nextE s l).2) ∧ a[10]? = some (d2)) ?_ ?_
  ·simp (maxSteps := 1000000) (disch := omega) only [push_cast, ↓wc_region, ↓wr_cons, ↓wr_nil, ↓wo_callf, Nat.reduceAdd, Nat.reduceMul, Nat.reduceLT, Nat.reduceEqDiff, ↓reduceIte, Nat.reduceBEq, hal, h5, h6, h7, h8, h9, cc]
  clear hal h5 h6 h7 h8 h9 a
  rintro a U ⟨rfl, hal, h5, h6, h7, h8, h9, h10⟩
  refine wc_scut (fun a V => V = X3 ∧ a.length = 121 ∧ a[5]? = some (.loc k 0 0) ∧ a[7]? = some (d1) ∧ a[8]? = some (.loc W.length 0 0) ∧ a[9]? = some (.bool (nextE s l).2) ∧ a[10]? = some (d2) ∧ a[12]? = some (.bool false)) ?_ ?_
  ·simp only [zW] at cn2 hX3 hset3 hget3
   simp (maxSteps := 1000000) (disch := omega) only [push_cast, ↓wc_region, ↓wr_cons, ↓wr_nil, ↓wo_callf, Nat.reduceAdd, Nat.reduceMul, Nat.reduceLT, Nat.reduceLeDiff, Nat.reduceEqDiff, ↓reduceIte, Nat.reduceBEq, hal, h5, h6, h7, h8, h9, h10, cn2, hX3.symm, hset3, hget3]
  clear hal h5 h6 h7 h8 h9 h10 a
  rintro a V ⟨rfl, hal, h5, h7, h8, h9, h10, h12⟩
  refine wc_scut (fun a Z => Z = T5 ∧ a.length = 121 ∧ a[7]? = some (d1) ∧ a[8]? = some (.loc W.length 0 0) ∧ a[9]? = some (.bool (nextE s l).2) ∧ a[10]? = some (d2) ∧ a[12]? = some (.bool false) ∧ a[13]? = some (d4)) ?_ ?_
  ·simp (maxSteps := 1000000) (disch := omega) only [push_cast, ↓wc_region, ↓wr_cons, ↓wr_nil, ↓wo_callf, Nat.reduceAdd, Nat.reduceMul, Nat.reduceLT, Nat.reduceEqDiff, ↓reduceIte, Nat.reduceBEq, hal, h5, h7, h8, h9, h10, h12, co4]
  clear hal h5 h7 h8 h9 h10 h12 a
  rintro a Z ⟨rfl, hal, h7, h8, h9, h10, h12, h13⟩
  refine wc_scut (fun a V => V = Z ∧ a.length = 121 ∧ a[7]? = some (d1) ∧ a[10]? = some (d2) ∧ a[13]? = some (d4)) ?_ ?_
  ·rcases htwo with ⟨hz, ho⟩ | ⟨y, o, hz, ho⟩
   ·rw [hz] at h9
    have e0 : ((clrF s l).1.length : Int) = 0 := by rw [ho]; rfl
    rw [e0] at n2 hsum
    simp (maxSteps := 1000000) (disch := omega) only [push_cast, ↓wc_seq, ↓wc_condL, ↓wc_region, ↓wr_cons, ↓wr_consgL, ↓wr_nil, ↓wo_pickL, ↓wc_skip, Nat.reduceAdd, Nat.reduceMul, Nat.reduceLT, Nat.reduceEqDiff, ↓reduceIte, Nat.reduceBEq, gt_iff_lt, hal, h7, h9, h10, h12, h13, n1, n2, n4, hsum, eqb, Int.lt_irrefl, Bool.not_true, bne_self_eq_false]
   ·rw [hz] at h9 x5
    have e0 : (0 : Int) < (clrF s l).1.length := by rw [ho]; simp <;> omega
    have y2 : (clrF s l).1[0]? = some y := by rw [ho]; rfl
    obtain ⟨q2, hd2, r2⟩ : ∃ q, d2 = .os q 0 (clrF s l).1.length false ∧ Z[q]? = some (.row 5 ((clrF s l).1.map Wt.enc)) := by
     rcases g5.1 with ⟨h, -⟩ | ⟨-, h⟩
     ·rw [ho] at h; cases h
     ·exact h
    rw [hd2] at h10
    have hp0 : 0 < (clrF s l).1.length := by omega
    simp only [Wt.enc] at x5
    simp (maxSteps := 1000000) (disch := omega) only [push_cast, ↓wc_seq, ↓wc_condL, ↓wc_region, ↓wr_cons, ↓wr_consgL, ↓wr_nil, ↓wo_pickL, ↓wc_skip, Nat.reduceAdd, Nat.reduceMul, Nat.reduceLT, Nat.reduceEqDiff, Int.reduceLE, ↓reduceIte, Nat.reduceBEq, gt_iff_lt, hal, h7, h8, h9, h10, h12, h13, hd2, n1, n4, r2, y2, x5, e0, hsum, eqb, Wt.enc, Bool.not_true, bne_self_eq_false]
  clear hal h7 h8 h9 h10 h12 h13 a
  rintro a V ⟨rfl, hal, h7, h10, h13⟩
  simp (maxSteps := 1000000) (disch := omega) only [push_cast, ↓wc_seq, ↓wc_block, ↓wc_region, ↓wr_cons, ↓wr_nil, ↓wc_wl, Nat.reduceAdd, Nat.reduceMul, ↓reduceIte, Nat.reduceBEq]
  refine wl_loop (fun i a U => U = V ∧ a.length = 121 ∧ a[7]? = some (d1) ∧ a[10]? = some (d2) ∧ a[13]? = some (d4) ∧ a[14]? = some (.int .i64 ((clrF s (l.take i)).1.length : Nat)) ∧ a[15]? = some (.int .i64 ((clrF s (l.take i)).2.1.length : Nat)) ∧ a[16]? = some (.int .i64 i)) l.length ?_ (by omega) ?_
  ·rw [hc0.1, hc0.2]
   simp (maxSteps := 1000000) (disch := omega) only [push_cast, Nat.reduceLT, Nat.reduceEqDiff, ↓reduceIte, hal, h7, h10, h13, Int.natCast_zero]
  clear hal h7 h10 h13 a
  rintro i a U hi ⟨rfl, hal, h7, h10, h13, h14, h15, h16⟩
  rcases Nat.lt_or_eq_of_le hi with hlt | rfl
  case inr =>
   simp (maxSteps := 1000000) (disch := omega) only [push_cast, ↓wc_seq, ↓wc_condL, ↓wc_region, ↓wr_cons, ↓wr_nil, ↓wo_callf, ↓wc_exit, ↓wc_ret, Nat.reduceAdd, Nat.reduceMul, Nat.reduceLT, Nat.reduceEqDiff, ↓reduceIte, Nat.reduceBEq, hal, h7, h16, n1, Int.lt_irrefl, cw, Tryz.f4]
  obtain ⟨y, hy⟩ : ∃ y, l[i]? = some y := ⟨l[i], by simp⟩
  obtain ⟨q1, hd1, r1⟩ : ∃ q, d1 = .os q 0 l.length false ∧ U[q]? = some (.row 5 (l.map Wt.enc)) := by
   rcases u5.1 with ⟨h, -⟩ | ⟨-, h⟩
   ·rw [h] at hlt; simp at hlt
   ·exact h
  rw [hd1] at h7
  have hlo := hs1.length_le
  have hlr := hs2.length_le
  rcases hcn i y hy with ⟨e1, e2, e3⟩ | ⟨e1, e2, e3, e4⟩
  ·have hi1 := lt_of_get e3
   obtain ⟨q2, hd2, r2⟩ : ∃ q, d2 = .os q 0 (clrF s l).1.length false ∧ U[q]? = some (.row 5 ((clrF s l).1.map Wt.enc)) := by
    rcases g5.1 with ⟨h, -⟩ | ⟨-, h⟩
    ·rw [h] at hi1; simp at hi1
    ·exact h
   rw [hd2] at h10
   generalize (clrF s (l.take i)).1.length = i1 at *
   generalize (clrF s (l.take i)).2.1.length = i2 at *
   simp (maxSteps := 1000000) (disch := omega) only [push_cast, ↓wc_seq, ↓wc_block, ↓wc_condL, ↓wc_region, ↓wr_cons, ↓wr_consgL, ↓wr_nil, ↓wo_pickL, ↓wc_skip, Nat.reduceAdd, Nat.reduceMul, Nat.reduceLT, Nat.reduceEqDiff, ↓reduceIte, Nat.reduceBEq, hal, h7, h10, h13, h14, h15, h16, e1, e2, hd1, hd2, hlt, hi1, hy, e3, r1, r2, Wt.enc, wrap_ok, Int.natCast_add, Int.natCast_one]
  ·have hi2 := lt_of_get e3
   obtain ⟨q4, hd4, r4⟩ : ∃ q, d4 = .os q 0 (clrF s l).2.1.length false ∧ U[q]? = some (.row 5 ((clrF s l).2.1.map Wt.enc)) := by
    rcases u4.1 with ⟨h, -⟩ | ⟨-, h⟩
    ·rw [h] at hi2; simp at hi2
    ·exact h
   rw [hd4] at h13
   by_cases hi1 : (clrF s (l.take i)).1.length < (clrF s l).1.length
   ·obtain ⟨z, hz⟩ : ∃ z, (clrF s l).1[(clrF s (l.take i)).1.length]? = some z := ⟨_, List.getElem?_eq_getElem hi1⟩
    have hne := e4 z hz
    obtain ⟨q2, hd2, r2⟩ : ∃ q, d2 = .os q 0 (clrF s l).1.length false ∧ U[q]? = some (.row 5 ((clrF s l).1.map Wt.enc)) := by
     rcases g5.1 with ⟨h, -⟩ | ⟨-, h⟩
     ·rw [h] at hi1; simp at hi1
     ·exact h
    rw [hd2] at h10
    generalize (clrF s (l.take i)).1.length = i1 at *
    generalize (clrF s (l.take i)).2.1.length = i2 at *
    simp (maxSteps := 1000000) (disch := omega) only [push_cast, ↓wc_seq, ↓wc_block, ↓wc_condL, ↓wc_region, ↓wr_cons, ↓wr_consgL, ↓wr_nil, ↓wo_pickL, ↓wc_skip, Nat.reduceAdd, Nat.reduceMul, Nat.reduceLT, Nat.reduceEqDiff, ↓reduceIte, Nat.reduceBEq, hal, h7, h10, h13, h14, h15, h16, e1, e2, hd1, hd2, hd4, hlt, hi1, hi2, hy, hz, hne, e3, r1, r2, r4, Wt.enc, wrap_ok, Int.natCast_add, Int.natCast_one]
   ·have hi1' : ¬ ((clrF s (l.take i)).1.length : Int) < (clrF s l).1.length := by omega
    generalize (clrF s (l.take i)).1.length = i1 at *
    generalize (clrF s (l.take i)).2.1.length = i2 at *
    simp (maxSteps := 1000000) (disch := omega) only [push_cast, ↓wc_seq, ↓wc_block, ↓wc_condL, ↓wc_region, ↓wr_cons, ↓wr_consgL, ↓wr_nil, ↓wo_pickL, ↓wc_skip, Nat.reduceAdd, Nat.reduceMul, Nat.reduceLT, Nat.reduceEqDiff, ↓reduceIte, Nat.reduceBEq, hal, h7, h10, h13, h14, h15, h16, e1, e2, hd1, hd4, n2, hlt, hi1', hi2, hy, e3, r1, r4, Wt.enc, wrap_ok, Int.natCast_add, Int.natCast_one]
 obtain ⟨d, T, ho, rfl⟩ := this
 exact ⟨T, ho⟩
end
end Wl
end Go.Proofs.YthkbiiammhekfaaGreatDoor.Dm
namespace Go.Proofs.YthkbiiammhekfaaGreatDoor
open Go Go.ChangeShapes Go.WideShapes Go.ChangeAt Go.RowKit Dm
theorem WaitlistClears_walk {W : World} {xs : List D} {vs : Array Value} (ht : TVs Tryz.prog [22, 23] xs) (hv : VRs W ⟨Tryz.prog, fun _ => none, fun g => g < W.heap.size⟩ xs vs.toList) (hb : bulkL xs ≤ 1048576) :
  Calls Tryz.prog 4 vs W fun e W' => e = .returned (.bool true) ∧ Below W.heap.size W W' := by
 obtain ⟨d1, _, rfl, h1, ht⟩ := ht.inv
 obtain ⟨d2, _, rfl, h2, ht⟩ := ht.inv
 have := ht.inv0
 subst this
 simp only [bulkL] at hb
 obtain ⟨v1, v2, hvs⟩ : ∃ v1 v2, vs.toList = [v1, v2] := by
  have := hv.1
  match vs.toList, this with
  | [v1, v2], _ => exact ⟨v1, v2, rfl⟩
 rw [hvs] at hv
 have r1 := hv.head
 have r2 := hv.tail.head
 obtain ⟨l, lx, z1, y1, w1⟩ := CfgsB_front h1 (by omega)
 obtain ⟨es, ex, z2, y2, w2⟩ := EvtsB_front h2 (by omega)
 obtain ⟨T, hT⟩ := Wl.WaitlistClears_d (n := 3000300) (lx := lx) (ex := ex) (Nat.le_refl _) z1 y1 z2 y2
 refine true_of_dcall envOk (I := fun g => g < W.heap.size) hT (fun g h => h) (fun g cs hg => by cases hg) ?_
 rw [hvs]
 exact VRs.cons (w1 _ _ _ r1) (VRs.cons (w2 _ _ _ r2) VRs.nil)
end Go.Proofs.YthkbiiammhekfaaGreatDoor
