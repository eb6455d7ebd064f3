/-
  Whether a request is served, for any number of legs.
  Next of a waiting list with any number of requests.
-/
import Derived.Test.YthkbiiammhekfaaGreatDoorWlJ
set_option linter.unusedSimpArgs false
set_option linter.unusedVariables false
namespace Go.Proofs.YthkbiiammhekfaaGreatDoor.Dm
open Go Gw
set_option linter.unusedSimpArgs false
set_option linter.unusedSimpArgs false
namespace Wl
section
variable {n : Nat} {S : List Ob} {st : Bool} {lab : Lab} {o p : Nat} {s : Stk}
def servedF (s : Stk) (x : Wt) : Bool := !(x.legs.any fun w => decide (s.left w x.cl < x.cnt))
theorem IdxLG {x : Wt} {l : List Lid} {lx : Bool} {i0 j0 : Nat} (hn : l.length + 202 ≤ n) (hl : l.length ≤ 100) (hi : S[i0]? = some (.row 1 [[.loc p 0 0]])) (hj : S[j0]? = some (.row 5 [x.enc])) (hs : SAt S lab o p s) (ok : StkOk 9999 s) (hw : ∀ w ∈ l, w.Ok) :
  WO (dcall E n 132 [.sl 4 (l.map Lid.enc) lx, .func 94 [] [.loc i0 0 0, .loc j0 0 0]] S) fun d T => ∃ i : Int, d = .int .i64 i ∧ decide (i ≥ 0) = (l.any fun w => decide (s.left w x.cl < x.cnt)) ∧ ∃ J, T = S ++ J := by
 obtain ⟨m, rfl⟩ : ∃ m, n = m + 1 := ⟨n - 1, by omega⟩
 refine wo_dcall Tryz.func132 rfl (by decide) rfl 19 rfl (fun a hal ha => ?_)
 have h0 : a[0]? = some (.sl 4 (l.map Lid.enc) lx) := ha 0 (by simp)
 have h1 : a[1]? = some (.func 94 [] [.loc i0 0 0, .loc j0 0 0]) := ha 1 (by simp)
 clear ha
 simp (maxSteps := 1000000) (disch := omega) only [push_cast, ↓wc_seq, ↓wc_block, ↓wc_region, ↓wr_cons, ↓wr_nil, ↓wc_wl, Nat.reduceAdd, Nat.reduceMul, Nat.reduceLT, Int.reduceNeg, ↓reduceIte, Nat.reduceBEq, reduceCtorEq, hal, h0]
 refine wl_loop (fun i a T => ((∃ J, T = S ++ J) ∧ ∀ (j : Nat) w, j < i → l[j]? = some w → ¬ s.left w x.cl < x.cnt) ∧ a.length = 19 ∧ a[0]? = some (.sl 4 (l.map Lid.enc) lx) ∧ a[1]? = some (.func 94 [] [.loc i0 0 0, .loc j0 0 0]) ∧ a[7]? = some (.int .i64 l.length) ∧ a[8]? = some (.int .i64 i)) l.length ?_ (by omega) ?_
 ·simp (maxSteps := 1000000) (disch := omega) only [push_cast, Nat.reduceLT, Nat.reduceEqDiff, ↓reduceIte, reduceCtorEq, hal, h0, h1, Int.natCast_zero]
  exact ⟨⟨[], (List.append_nil _).symm⟩, fun j w hj => by omega⟩
 clear hal h0 h1 a
 rintro i a T hil ⟨⟨⟨J, hJ⟩, hz⟩, hal, h0, h1, h7, h8⟩
 rcases Nat.lt_or_eq_of_le hil with hlt | rfl
 case inr =>
  have hv : (l.any fun w => decide (s.left w x.cl < x.cnt)) = false := by
   rw [List.any_eq_false]
   intro w hm
   obtain ⟨j, hj⟩ := List.mem_iff_getElem?.1 hm
   simpa using hz j w (lt_of_get hj) hj
  rw [hv]
  simp (maxSteps := 1000000) (disch := omega) only [push_cast, ↓wc_seq, ↓wc_condL, ↓wc_region, ↓wr_cons, ↓wr_nil, ↓wc_exit, ↓wc_ret, Nat.reduceAdd, Nat.reduceMul, Nat.reduceLT, Int.reduceNeg, ↓reduceIte, Nat.reduceBEq, decide_eq_false_iff_not, hal, h7, h8, Int.lt_irrefl, Tryz.f132]
  exact ⟨_, rfl, by decide, J, hJ⟩
 have hlt' : (i : Int) < l.length := by omega
 obtain ⟨w, hq⟩ : ∃ w, l[i]? = some w := ⟨l[i], by simp⟩
 have hwo := hw w (List.mem_of_getElem? hq)
 have c1 := fun b (hb : decide (s.left w x.cl < x.cnt) = b) => served1_s (n := m) (S := T) (x := x) (w := w) (by omega) (by rw [hJ]; exact get_psh hi J) (by rw [hJ]; exact get_psh hj J) (by rw [hJ]; exact hs.push J) ok hwo hb
 by_cases hb : s.left w x.cl < x.cnt
 ·have hv : (l.any fun w => decide (s.left w x.cl < x.cnt)) = true := List.any_eq_true.2 ⟨w, List.mem_of_getElem? hq, decide_eq_true hb⟩
  rw [hv]
  have c1 := c1 true (decide_eq_true hb)
  simp only [Lid.enc] at c1
  simp (maxSteps := 1000000) (disch := omega) only [push_cast, ↓wc_seq, ↓wc_block, ↓wc_condL, ↓wc_region, ↓wr_cons, ↓wr_nil, ↓wc_ret, ↓wc_skip, Nat.reduceAdd, Nat.reduceMul, Nat.reduceLT, Nat.reduceLeDiff, Nat.reduceEqDiff, Int.reduceNeg, ↓reduceIte, Nat.reduceBEq, decide_eq_true_eq, reduceCtorEq, hal, h0, h1, h7, h8, ↓wo_callv, callV_func, hlt', hq, Lid.enc, List.nil_append, List.cons_append, c1, Tryz.f132]
  exact ⟨_, rfl, by simp, _, by rw [hJ, List.append_assoc]⟩
 ·have c1 := c1 false (decide_eq_false hb)
  simp only [Lid.enc] at c1
  simp (maxSteps := 1000000) (disch := omega) only [push_cast, ↓wc_seq, ↓wc_block, ↓wc_condL, ↓wc_region, ↓wr_cons, ↓wr_nil, ↓wc_skip, Nat.reduceAdd, Nat.reduceMul, Nat.reduceLT, Nat.reduceLeDiff, Nat.reduceEqDiff, Int.reduceNeg, ↓reduceIte, Nat.reduceBEq, reduceCtorEq, hal, h0, h1, h7, h8, ↓wo_callv, callV_func, hlt', hq, Lid.enc, List.nil_append, List.cons_append, c1, wrap_ok, Int.natCast_add, Int.natCast_one]
  refine ⟨hlt, ⟨_, by rw [hJ, List.append_assoc]⟩, fun j w' hj hw' => ?_⟩
  rcases Nat.lt_or_eq_of_le (Nat.le_of_lt_succ hj) with hj | rfl
  ·exact hz j w' hj hw'
  ·rw [hq] at hw'
   cases hw'
   exact hb
theorem servedG {x : Wt} (hn : x.legs.length + 210 ≤ n) (hl : x.legs.length ≤ 100) (hs : SAt S lab o p s) (ok : StkOk 9999 s) (hw : ∀ w ∈ x.legs, w.Ok) : callD E (dcall E n) st S 52 [.agg x.enc, .loc p 0 0] = some (.bool (servedF s x), S) := by
 obtain ⟨m, rfl⟩ : ∃ m, n = m + 3 := ⟨n - 3, by omega⟩
 have : WO (dcall E (m + 3) 52 [.agg x.enc, .loc p 0 0] S) fun d T => ∃ J, d = .bool (servedF s x) ∧ T = S ++ J := by
  have g0 : (S ++ [Ob.row 5 [x.enc], Ob.row 1 [[.loc p 0 0]]])[S.length]? = some (Ob.row 5 [x.enc]) := by simp
  have g1 : (S ++ [Ob.row 5 [x.enc], Ob.row 1 [[.loc p 0 0]]])[S.length + 1]? = some (Ob.row 1 [[.loc p 0 0]]) := by simp
  obtain ⟨_, _, c2, i, rfl, hge, J, rfl⟩ := IdxLG (n := m + 1) (x := x) (l := x.legs) (lx := x.legsx) (by omega) hl g1 g0 (hs.push _) ok hw
  have c2 := (callD_own (call := dcall E (m + 1)) rfl (by simp [pureL_cons, D.pure])).trans c2
  have c3 : WO (dcall E (m + 2) 93 [.sl 4 (x.legs.map Lid.enc) x.legsx, .func 94 [] [.loc (S.length + 1) 0 0, .loc S.length 0 0]] (S ++ [Ob.row 5 [x.enc], Ob.row 1 [[.loc p 0 0]]])) fun d T => d = .bool (x.legs.any fun w => decide (s.left w x.cl < x.cnt)) ∧ T = S ++ [Ob.row 5 [x.enc], Ob.row 1 [[.loc p 0 0]]] ++ J := by
   generalize (x.legs.any fun w => decide (s.left w x.cl < x.cnt)) = b at *
   refine wo_dcall Tryz.func93 rfl (by decide) rfl 9 rfl (fun a hal ha => ?_)
   have h0 : a[0]? = some (.sl 4 (x.legs.map Lid.enc) x.legsx) := ha 0 (by simp)
   have h1 : a[1]? = some (.func 94 [] [.loc (S.length + 1) 0 0, .loc S.length 0 0]) := ha 1 (by simp)
   clear ha
   simp (maxSteps := 1000000) (disch := omega) only [push_cast, ↓wc_seq, ↓wc_region, ↓wr_cons, ↓wr_nil, ↓wo_callf, ↓wc_ret, Nat.reduceAdd, Nat.reduceMul, Nat.reduceLT, Nat.reduceEqDiff, ↓reduceIte, Nat.reduceBEq, reduceCtorEq, hal, h0, h1, c2, hge, Tryz.f93]
  obtain ⟨d3, T3, c3, rfl, rfl⟩ := c3
  have c3 := (callD_own (call := dcall E (m + 2)) rfl (by simp [pureL_cons, D.pure])).trans c3
  unfold servedF
  generalize (x.legs.any fun w => decide (s.left w x.cl < x.cnt)) = b at *
  refine wo_dcall Tryz.func52 rfl (by decide) rfl 10 rfl (fun a hal ha => ?_)
  have h0 : a[0]? = some (.agg x.enc) := ha 0 (by simp)
  have h1 : a[1]? = some (.loc p 0 0) := ha 1 (by simp)
  clear ha
  simp only [Wt.enc] at h0 c3 g0
  simp (maxSteps := 1000000) (disch := omega) only [push_cast, ↓wc_seq, ↓wc_region, ↓wr_cons, ↓wr_nil, ↓wo_callf, ↓wc_ret, Nat.reduceAdd, Nat.reduceMul, Nat.reduceLT, Nat.reduceEqDiff, ↓reduceIte, Nat.reduceBEq, hal, h0, h1, List.append_assoc, List.nil_append, List.cons_append, List.length_append, List.length_cons, g0, c3, dUn, Tryz.f52]
  exact ⟨_, rfl⟩
 obtain ⟨d, T, ho, J, rfl, rfl⟩ := this
 exact callD_obsJ rfl (by simp [pureL_cons, D.pure]) ho rfl
end
end Wl
end Go.Proofs.YthkbiiammhekfaaGreatDoor.Dm
namespace Go.Proofs.YthkbiiammhekfaaGreatDoor.Dm
open Go Gw
set_option linter.unusedSimpArgs false
set_option linter.unusedSimpArgs false
namespace Wl
section
variable {n : Nat} {S : List Ob} {st : Bool} {lab : Lab} {o p : Nat} {s : Stk}
def nextF (s : Stk) (l : List Wt) : Wt × Bool := match l.find? fun y => servedF s y with
 | some y => (y, true)
 | none => (⟨0, [], false, ByteArray.mk #[], 0, 0⟩, false)
theorem NextNo {k : Nat} {d : D} {l : List Wt} (hn : l.length + 320 ≤ n) (hl : l.length ≤ 1000) (hk : LiAt S k d) (h : LiD S d l) (hs : SAt S lab o p s) (ok : StkOk 9999 s) (hw : ∀ y ∈ l, y.legs.length ≤ 100 ∧ ∀ w ∈ y.legs, w.Ok) (hno : ∀ y ∈ l, servedF s y = false) :
  callD E (dcall E n) st S 19 [.loc k 0 0, .loc p 0 0] = some (.tup [.agg zW, .bool false], S) := by
 obtain ⟨m, rfl⟩ : ∃ m, n = m + 1 := ⟨n - 1, by omega⟩
 have : WO (dcall E (m + 1) 19 [.loc k 0 0, .loc p 0 0] S) fun r T => ∃ J, r = .tup [.agg zW, .bool false] ∧ T = S ++ J := by
  obtain ⟨d', J0, hO, c1⟩ := OrderL (n := m) (by omega) (by omega) (hk.app [.row 5 [zW]]) (h.app [.row 5 [zW]])
  have hfin : ∀ J, (S ++ [Ob.row 5 [zW]] ++ J)[S.length]? = some (.row 5 [zW]) := fun J => get_psh get_end J
  simp only [zW] at c1
  rcases hO with ⟨rfl, hd⟩ | ⟨hne, q, rfl, hq⟩
  ·rcases hd with rfl | rfl
   ·refine wo_dcall Tryz.func19 rfl (by decide) rfl 21 rfl (fun a hal ha => ?_)
    have h0 : a[0]? = some (.loc k 0 0) := ha 0 (by simp)
    have h1 : a[1]? = some (.loc p 0 0) := ha 1 (by simp)
    clear ha
    simp (maxSteps := 1000000) (disch := omega) only [push_cast, ↓wc_seq, ↓wc_block, ↓wc_region, ↓wr_cons, ↓wr_nil, ↓wo_callf, ↓wc_wl, Nat.reduceAdd, Nat.reduceMul, Nat.reduceLT, ↓reduceIte, Nat.reduceBEq, reduceCtorEq, hal, h0, c1]
    refine wl_loop (fun i a T => T = S ++ [Ob.row 5 [zW]] ++ J0 ∧ a.length = 21 ∧ a[4]? = some (.loc S.length 0 0) ∧ a[9]? = some (.nils) ∧ a[10]? = some (.int .i64 0) ∧ a[11]? = some (.int .i64 0)) 0 ?_ (by omega) ?_
    ·simp (maxSteps := 1000000) (disch := omega) only [push_cast, Nat.reduceLT, Nat.reduceEqDiff, ↓reduceIte, hal, zW]
    clear hal h0 h1 a
    rintro i a T hi ⟨hJ, hal, h4, h9, h10, h11⟩
    have g1 : T[S.length]? = some (.row 5 [zW]) := by rw [hJ]; exact hfin J0
    have g3 : T.set S.length (.row 5 [zW]) = T := by
     obtain ⟨h1, h2⟩ := List.getElem?_eq_some_iff.1 g1
     rw [← h2, List.set_getElem_self]
    have gi := lt_of_get g1
    simp only [zW] at g1 g3
    simp only [zW]
    simp (maxSteps := 1000000) (disch := omega) only [push_cast, ↓wc_seq, ↓wc_condL, ↓wc_region, ↓wr_cons, ↓wr_nil, ↓wc_exit, ↓wc_ret, Nat.reduceAdd, Nat.reduceMul, Nat.reduceLT, Nat.reduceLeDiff, Nat.reduceEqDiff, ↓wo_build, ↓reduceIte, Nat.reduceBEq, hal, h4, h10, h11, Int.lt_irrefl, g1, g3, Tryz.f19]
    exact ⟨_, by rw [hJ, List.append_assoc]⟩
   ·refine wo_dcall Tryz.func19 rfl (by decide) rfl 21 rfl (fun a hal ha => ?_)
    have h0 : a[0]? = some (.loc k 0 0) := ha 0 (by simp)
    have h1 : a[1]? = some (.loc p 0 0) := ha 1 (by simp)
    clear ha
    simp (maxSteps := 1000000) (disch := omega) only [push_cast, ↓wc_seq, ↓wc_block, ↓wc_region, ↓wr_cons, ↓wr_nil, ↓wo_callf, ↓wc_wl, Nat.reduceAdd, Nat.reduceMul, Nat.reduceLT, ↓reduceIte, Nat.reduceBEq, reduceCtorEq, hal, h0, c1, Int.natCast_zero]
    refine wl_loop (fun i a T => T = S ++ [Ob.row 5 [zW]] ++ J0 ∧ a.length = 21 ∧ a[4]? = some (.loc S.length 0 0) ∧ a[9]? = some (.sl 5 [] true) ∧ a[10]? = some (.int .i64 0) ∧ a[11]? = some (.int .i64 0)) 0 ?_ (by omega) ?_
    ·simp (maxSteps := 1000000) (disch := omega) only [push_cast, Nat.reduceLT, Nat.reduceEqDiff, ↓reduceIte, hal, zW]
    clear hal h0 h1 a
    rintro i a T hi ⟨hJ, hal, h4, h9, h10, h11⟩
    have g1 : T[S.length]? = some (.row 5 [zW]) := by rw [hJ]; exact hfin J0
    have g3 : T.set S.length (.row 5 [zW]) = T := by
     obtain ⟨h1, h2⟩ := List.getElem?_eq_some_iff.1 g1
     rw [← h2, List.set_getElem_self]
    have gi := lt_of_get g1
    simp only [zW] at g1 g3
    simp only [zW]
    simp (maxSteps := 1000000) (disch := omega) only [push_cast, ↓wc_seq, ↓wc_condL, ↓wc_region, ↓wr_cons, ↓wr_nil, ↓wc_exit, ↓wc_ret, Nat.reduceAdd, Nat.reduceMul, Nat.reduceLT, Nat.reduceLeDiff, Nat.reduceEqDiff, ↓wo_build, ↓reduceIte, Nat.reduceBEq, hal, h4, h10, h11, Int.lt_irrefl, g1, g3, Tryz.f19]
    exact ⟨_, by rw [hJ, List.append_assoc]⟩
  ·refine wo_dcall Tryz.func19 rfl (by decide) rfl 21 rfl (fun a hal ha => ?_)
   have h0 : a[0]? = some (.loc k 0 0) := ha 0 (by simp)
   have h1 : a[1]? = some (.loc p 0 0) := ha 1 (by simp)
   clear ha
   simp (maxSteps := 1000000) (disch := omega) only [push_cast, ↓wc_seq, ↓wc_block, ↓wc_region, ↓wr_cons, ↓wr_nil, ↓wo_callf, ↓wc_wl, Nat.reduceAdd, Nat.reduceMul, Nat.reduceLT, ↓reduceIte, Nat.reduceBEq, reduceCtorEq, hal, h0, c1]
   refine wl_loop (fun i a T => (∃ J, T = S ++ [Ob.row 5 [zW]] ++ J0 ++ J) ∧ a.length = 21 ∧ a[1]? = some (.loc p 0 0) ∧ a[4]? = some (.loc S.length 0 0) ∧ a[9]? = some (.os q 0 l.length false) ∧ a[10]? = some (.int .i64 l.length) ∧ a[11]? = some (.int .i64 i)) l.length ?_ (by omega) ?_
   ·simp (maxSteps := 1000000) (disch := omega) only [push_cast, Nat.reduceLT, Nat.reduceEqDiff, ↓reduceIte, hal, h1, Int.natCast_zero, zW]
    exact ⟨[], (List.append_nil _).symm⟩
   clear hal h0 h1 a
   rintro i a T hi ⟨⟨J, hJ⟩, hal, h1, h4, h9, h10, h11⟩
   have g1 : T[S.length]? = some (.row 5 [zW]) := by rw [hJ]; exact get_psh (hfin J0) J
   rcases Nat.lt_or_eq_of_le hi with hlt | rfl
   case inr =>
    have g3 : T.set S.length (.row 5 [zW]) = T := by
     obtain ⟨h1, h2⟩ := List.getElem?_eq_some_iff.1 g1
     rw [← h2, List.set_getElem_self]
    have gi := lt_of_get g1
    simp only [zW] at g1 g3
    simp only [zW]
    simp (maxSteps := 1000000) (disch := omega) only [push_cast, ↓wc_seq, ↓wc_condL, ↓wc_region, ↓wr_cons, ↓wr_nil, ↓wc_exit, ↓wc_ret, Nat.reduceAdd, Nat.reduceMul, Nat.reduceLT, Nat.reduceLeDiff, Nat.reduceEqDiff, ↓wo_build, ↓reduceIte, Nat.reduceBEq, hal, h4, h10, h11, Int.lt_irrefl, g1, g3, Tryz.f19]
    exact ⟨_, by rw [hJ, List.append_assoc, List.append_assoc]⟩
   have hlt' : (i : Int) < l.length := by omega
   obtain ⟨y, hy⟩ : ∃ y, l[i]? = some y := ⟨l[i], by simp⟩
   have hym := List.mem_of_getElem? hy
   have gq : T[q]? = some (.row 5 (l.map Wt.enc)) := by rw [hJ]; exact get_psh hq J
   have gq2 := fun ob => get_psh gq [ob]
   have cs := fun st => servedG (n := m) (st := st) (S := T ++ [Ob.row 5 [y.enc]]) (x := y) (by have := (hw y hym).1; omega) (hw y hym).1 (by rw [hJ]; exact (((hs.push _).push _).push _).push _) ok (hw y hym).2
   rw [hno y hym] at cs
   simp only [Wt.enc] at cs
   simp (maxSteps := 1000000) (disch := omega) only [push_cast, ↓wc_seq, ↓wc_block, ↓wc_condL, ↓wc_region, ↓wr_cons, ↓wr_nil, ↓wo_callf, ↓wc_skip, Nat.reduceAdd, Nat.reduceMul, Nat.reduceLT, Nat.reduceLeDiff, Nat.reduceEqDiff, ↓reduceIte, Nat.reduceBEq, hal, h1, h4, h9, h10, h11, hlt', gq, hy, cs, get_end, set_end, Wt.enc, wrap_ok, Int.natCast_add, Int.natCast_one]
   exact ⟨hlt, J ++ [.row 5 [y.enc]], by rw [hJ]; simp [Wt.enc]⟩
 obtain ⟨r, T, ho, J, rfl, rfl⟩ := this
 exact callD_obsJ rfl (by simp [pureL_cons, D.pure]) ho rfl
theorem NextYes {k i0 : Nat} {d : D} {l : List Wt} {x : Wt} (hn : l.length + 320 ≤ n) (hl : l.length ≤ 1000) (hk : LiAt S k d) (h : LiD S d l) (hs : SAt S lab o p s) (ok : StkOk 9999 s) (hw : ∀ y ∈ l, y.legs.length ≤ 100 ∧ ∀ w ∈ y.legs, w.Ok) (hx : l[i0]? = some x) (hyes : servedF s x = true) (hno : ∀ (j : Nat) y, j < i0 → l[j]? = some y → servedF s y = false) :
  WO (dcall E n 19 [.loc k 0 0, .loc p 0 0] S) fun r T => ∃ J, r = .tup [.agg x.enc, .bool true] ∧ T = S ++ [.row 5 [x.enc]] ++ J := by
 obtain ⟨m, rfl⟩ : ∃ m, n = m + 1 := ⟨n - 1, by omega⟩
 have hil := lt_of_get hx
 obtain ⟨d', J0, hO, c1⟩ := OrderL (n := m) (by omega) (by omega) (hk.app [.row 5 [zW]]) (h.app [.row 5 [zW]])
 have hfin : ∀ J, (S ++ [Ob.row 5 [zW]] ++ J)[S.length]? = some (.row 5 [zW]) := fun J => get_psh get_end J
 simp only [zW] at c1
 rcases hO with ⟨rfl, -⟩ | ⟨hne, q, rfl, hq⟩
 ·simp at hil
 refine wo_dcall Tryz.func19 rfl (by decide) rfl 21 rfl (fun a hal ha => ?_)
 have h0 : a[0]? = some (.loc k 0 0) := ha 0 (by simp)
 have h1 : a[1]? = some (.loc p 0 0) := ha 1 (by simp)
 clear ha
 simp (maxSteps := 1000000) (disch := omega) only [push_cast, ↓wc_seq, ↓wc_block, ↓wc_region, ↓wr_cons, ↓wr_nil, ↓wo_callf, ↓wc_wl, Nat.reduceAdd, Nat.reduceMul, Nat.reduceLT, ↓reduceIte, Nat.reduceBEq, reduceCtorEq, hal, h0, c1]
 refine wl_loop (fun i a T => ((∃ J, T = S ++ [Ob.row 5 [zW]] ++ J0 ++ J) ∧ i ≤ i0) ∧ a.length = 21 ∧ a[1]? = some (.loc p 0 0) ∧ a[4]? = some (.loc S.length 0 0) ∧ a[9]? = some (.os q 0 l.length false) ∧ a[10]? = some (.int .i64 l.length) ∧ a[11]? = some (.int .i64 i)) l.length ?_ (by omega) ?_
 ·simp (maxSteps := 1000000) (disch := omega) only [push_cast, Nat.reduceLT, Nat.reduceEqDiff, ↓reduceIte, hal, h1, Int.natCast_zero, zW]
  exact ⟨⟨[], (List.append_nil _).symm⟩, by omega⟩
 clear hal h0 h1 a
 rintro i a T hi ⟨⟨⟨J, hJ⟩, hi0⟩, hal, h1, h4, h9, h10, h11⟩
 have hlt : i < l.length := by omega
 have g1 : T[S.length]? = some (.row 5 [zW]) := by rw [hJ]; exact get_psh (hfin J0) J
 have hlt' : (i : Int) < l.length := by omega
 obtain ⟨y, hy⟩ : ∃ y, l[i]? = some y := ⟨l[i], by simp⟩
 have hym := List.mem_of_getElem? hy
 have gq : T[q]? = some (.row 5 (l.map Wt.enc)) := by rw [hJ]; exact get_psh hq J
 have gq2 := fun ob => get_psh gq [ob]
 have cs := fun st => servedG (n := m) (st := st) (S := T ++ [Ob.row 5 [y.enc]]) (x := y) (by have := (hw y hym).1; omega) (hw y hym).1 (by rw [hJ]; exact (((hs.push _).push _).push _).push _) ok (hw y hym).2
 rcases Nat.lt_or_eq_of_le hi0 with hlt0 | rfl
 ·rw [hno i y hlt0 hy] at cs
  simp only [Wt.enc] at cs
  simp (maxSteps := 1000000) (disch := omega) only [push_cast, ↓wc_seq, ↓wc_block, ↓wc_condL, ↓wc_region, ↓wr_cons, ↓wr_nil, ↓wo_callf, ↓wc_skip, Nat.reduceAdd, Nat.reduceMul, Nat.reduceLT, Nat.reduceLeDiff, Nat.reduceEqDiff, ↓reduceIte, Nat.reduceBEq, hal, h1, h4, h9, h10, h11, hlt', gq, hy, cs, get_end, set_end, Wt.enc, wrap_ok, Int.natCast_add, Int.natCast_one]
  exact ⟨hlt, ⟨J ++ [.row 5 [y.enc]], by rw [hJ]; simp [Wt.enc]⟩, by omega⟩
 ·obtain rfl : x = y := Option.some.inj (hx.symm.trans hy)
  rw [hyes] at cs
  have g2 : ∀ ob ob', ((T ++ [ob]).set S.length ob')[S.length]? = some ob' := fun ob ob' => List.getElem?_set_self (by rw [List.length_append]; have := lt_of_get g1; omega)
  have g4 := fun ob => get_psh g1 [ob]
  simp only [zW, Wt.enc] at cs g1 g4
  simp (maxSteps := 1000000) (disch := omega) only [push_cast, ↓wc_seq, ↓wc_block, ↓wc_condL, ↓wc_region, ↓wr_cons, ↓wr_nil, ↓wo_callf, ↓wc_ret, ↓wc_skip, Nat.reduceAdd, Nat.reduceMul, Nat.reduceLT, Nat.reduceLeDiff, Nat.reduceEqDiff, ↓reduceIte, Nat.reduceBEq, hal, h1, h4, h9, h10, h11, hlt', gq, g2, g4, hy, cs, get_end, set_end, Wt.enc, Tryz.f19]
  refine ⟨J0 ++ J ++ [.row 5 [x.enc]], ?_⟩
  rw [hJ]
  simp [Wt.enc]
end
end Wl
end Go.Proofs.YthkbiiammhekfaaGreatDoor.Dm
