/-
  The reference's waiting list: Served, Order, Next; two lists of equal requests are the same.
-/
import Derived.Test.YthkbiiammhekfaaGreatDoorWpD
set_option linter.unusedSimpArgs false
set_option linter.unusedVariables false
namespace Go.Proofs.YthkbiiammhekfaaGreatDoor.Dm
open Go Gw
set_option linter.unusedSimpArgs false
set_option linter.unusedSimpArgs false
namespace Wl

section
variable {n : Nat} {S : List Ob} {st : Bool} {lab : Lab} {k p o : Nat} {l : List Wt} {s : Stk}
theorem RLeft_c {id : Lid} (hn : 180 ≤ n) (h : RAt S lab o p s) (ok : StkOk 9999 s) (hll : s.legs.length ≤ 100) (hls : s.l.length ≤ 100) (cl : ByteArray) (st : Bool) : callD E (dcall E n) st S 17 [.loc p 0 0, .agg id.enc, .str cl] = some (.int .i64 (s.left id cl), S) := by
 obtain ⟨-, rd, rows, h⟩ := h
 exact rLeft_c hn h ok (by rw [← h.legs, List.length_map] at hll; exact hll) hls cl st
theorem RAt.push (h : RAt S lab o p s) (J : List Ob) : RAt (S ++ J) lab o p s := by
 obtain ⟨hf, rd, rows, h⟩ := h
 exact ⟨hf.push J, rd, rows, h.push J⟩
set_option maxHeartbeats 4000000 in
theorem ServedR {x : Wt} (hn : 300 ≤ n) (h : RAt S lab o p s) (ok : StkOk 9999 s) (hll : s.legs.length ≤ 100) (hls : s.l.length ≤ 100) (hl : x.legs.length ≤ 100) (st : Bool) : callD E (dcall E n) st S 81 [.loc p 0 0, .agg x.enc] = some (.bool (servedF s x), S) := by
 obtain ⟨m, rfl⟩ : ∃ m, n = m + 1 := ⟨n - 1, by omega⟩
 have : WO (dcall E (m + 1) 81 [.loc p 0 0, .agg x.enc] S) fun d T => ∃ J, d = .bool (servedF s x) ∧ T = S ++ J := by
  obtain ⟨S1, hS1⟩ : ∃ S1, S1 = S ++ [Ob.row 5 [x.enc]] := ⟨_, rfl⟩
  have hR : RAt S1 lab o p s := by rw [hS1]; exact RAt.push h _
  have g1 : S1[S.length]? = some (.row 5 [x.enc]) := by rw [hS1]; exact get_end
  have cl := fun id st => RLeft_c (n := m) (id := id) (by omega) hR ok hll hls x.cl st
  simp only [Lid.enc] at cl
  refine wo_dcall Tryz.func81 rfl (by decide) rfl 25 rfl (fun a hal ha => ?_)
  have h0 : a[0]? = some (.loc p 0 0) := ha 0 (by simp)
  have h1 : a[1]? = some (.agg x.enc) := ha 1 (by simp)
  clear ha
  simp only [Wt.enc] at h1
  simp (maxSteps := 1000000) (disch := omega) only [push_cast, ↓wc_seq, ↓wc_block, ↓wc_region, ↓wr_cons, ↓wr_nil, ↓wc_wl, Nat.reduceAdd, Nat.reduceMul, ↓reduceIte, Nat.reduceBEq, h1]
  refine wl_loop (fun i a T => (T = S1 ∧ ∀ (j : Nat) w, j < i → x.legs[j]? = some w → ¬ s.left w x.cl < x.cnt) ∧ a.length = 25 ∧ a[0]? = some (.loc p 0 0) ∧ a[3]? = some (.loc S.length 0 0) ∧ a[5]? = some (.int .i64 i)) x.legs.length ?_ (by omega) ?_
  ·simp (maxSteps := 1000000) (disch := omega) only [push_cast, Nat.reduceLT, Nat.reduceEqDiff, ↓reduceIte, reduceCtorEq, hal, h0, Int.natCast_zero]
   exact ⟨hS1.symm, fun j w hj => by omega⟩
  clear hal h0 h1 a
  rintro i a T hi ⟨⟨rfl, hz⟩, hal, h0, h3, h5⟩
  simp only [Wt.enc] at g1
  rcases Nat.lt_or_eq_of_le hi with hlt | rfl
  case inr =>
   have hv : servedF s x = true := served_iff.2 fun w hw => by
    obtain ⟨j, hj⟩ := List.mem_iff_getElem?.1 hw
    have := hz j w (lt_of_get hj) hj
    omega
   rw [hv]
   simp (maxSteps := 1000000) (disch := omega) only [push_cast, ↓wc_seq, ↓wc_condL, ↓wc_region, ↓wr_cons, ↓wr_nil, ↓wc_exit, ↓wc_ret, Nat.reduceAdd, Nat.reduceMul, Nat.reduceLT, Nat.reduceEqDiff, ↓reduceIte, Nat.reduceBEq, hal, h3, h5, g1, Nat.lt_irrefl, Tryz.f81]
   exact ⟨_, hS1⟩
  obtain ⟨w, hq⟩ : ∃ w, x.legs[i]? = some w := ⟨x.legs[i], by simp⟩
  by_cases hb : s.left w x.cl < x.cnt
  ·have hv : servedF s x = false := by
    cases e : servedF s x with
    | false => rfl
    | true => have := served_iff.1 e w (List.mem_of_getElem? hq); omega
   rw [hv]
   simp (maxSteps := 1000000) (disch := omega) only [push_cast, ↓wc_seq, ↓wc_block, ↓wc_condL, ↓wc_region, ↓wr_cons, ↓wr_nil, ↓wo_callf, ↓wc_ret, ↓wc_skip, Nat.reduceAdd, Nat.reduceMul, Nat.reduceLT, Nat.reduceLeDiff, Nat.reduceEqDiff, ↓reduceIte, Nat.reduceBEq, reduceCtorEq, hal, h0, h3, h5, g1, hlt, hq, cl, hb, Lid.enc, Tryz.f81]
   exact ⟨_, hS1⟩
  ·simp (maxSteps := 1000000) (disch := omega) only [push_cast, ↓wc_seq, ↓wc_block, ↓wc_condL, ↓wc_region, ↓wr_cons, ↓wr_nil, ↓wo_callf, ↓wc_skip, Nat.reduceAdd, Nat.reduceMul, Nat.reduceLT, Nat.reduceLeDiff, Nat.reduceEqDiff, ↓reduceIte, Nat.reduceBEq, reduceCtorEq, hal, h0, h3, h5, g1, hlt, hq, cl, hb, Lid.enc, wrap_ok, Int.natCast_add, Int.natCast_one]
   intro j w' hj hw'
   rcases Nat.lt_or_eq_of_le (Nat.le_of_lt_succ hj) with hj | rfl
   ·exact hz j w' hj hw'
   ·rw [hq] at hw'
    cases hw'
    exact hb
 obtain ⟨d, T, ho, J, rfl, rfl⟩ := this
 exact callD_obsJ rfl (by simp [pureL_cons, D.pure]) ho rfl
theorem OrderR (hn : 1 ≤ n) (h : RLi S lab k l) : ∃ d, GL 5 Wt.enc S d l ∧ ∀ st, callD E (dcall E n) st S 15 [.loc k 0 0] = some (d, S) := by
 obtain ⟨m, rfl⟩ : ∃ m, n = m + 1 := ⟨n - 1, by omega⟩
 obtain ⟨d, h1, h2, -, -⟩ := h
 refine ⟨d, h2, fun st => ?_⟩
 have : WO (dcall E (m + 1) 15 [.loc k 0 0] S) fun r T => r = d ∧ T = S := by
  refine wo_dcall Tryz.func15 rfl (by decide) rfl 7 rfl (fun a hal ha => ?_)
  have h0 : a[0]? = some (.loc k 0 0) := ha 0 (by simp)
  clear ha
  simp (maxSteps := 1000000) (disch := omega) only [push_cast, ↓wc_seq, ↓wc_region, ↓wr_cons, ↓wr_nil, ↓wc_ret, Nat.reduceAdd, Nat.reduceMul, Nat.reduceLT, ↓reduceIte, Nat.reduceBEq, reduceCtorEq, hal, h0, h1, Tryz.f15]
 obtain ⟨_, _, ho, rfl, rfl⟩ := this
 have := callD_ext (st := st) (J := []) (call := dcall E (m + 1)) (f := 15) rfl (by rw [List.append_nil]; exact ho)
 rw [List.append_nil] at this
 exact this
set_option maxHeartbeats 4000000 in
theorem NextR (hn : l.length + 320 ≤ n) (hl : l.length ≤ 900) (hg : GoodW l) (h : RLi S lab k l) (hs : RAt S lab o p s) (ok : StkOk 9999 s) (hll : s.legs.length ≤ 100) (hls : s.l.length ≤ 100) (st : Bool) :
  callD E (dcall E n) st S 38 [.loc k 0 0, .loc p 0 0] = some (.tup [.agg (nextE s l).1, .bool (nextE s l).2], S) := by
 obtain ⟨m, rfl⟩ : ∃ m, n = m + 1 := ⟨n - 1, by omega⟩
 have : WO (dcall E (m + 1) 38 [.loc k 0 0, .loc p 0 0] S) fun d T => ∃ J, d = .tup [.agg (nextE s l).1, .bool (nextE s l).2] ∧ T = S ++ J := by
  obtain ⟨d, w1, w2, -, -⟩ := h
  obtain ⟨S1, hS1⟩ : ∃ S1, S1 = S ++ [Ob.row 5 [zW]] := ⟨_, rfl⟩
  have hR : RAt S1 lab o p s := by rw [hS1]; exact RAt.push hs _
  have g0 : S1[S.length]? = some (.row 5 [zW]) := by rw [hS1]; exact get_end
  have g1 : S1[k]? = some (.row 1 [[d]]) := by rw [hS1]; exact get_psh w1 _
  have w2' : GL 5 Wt.enc S1 d l := by rw [hS1]; exact w2.push _
  have e1 : ∀ R, S1.set S.length R = S ++ [R] := fun R => by rw [hS1]; simp
  have gi := lt_of_get g0
  have len1 : S1.length = S.length + 1 := by rw [hS1]; simp
  clear w2 w1
  have cs := fun (y : Wt) (hy : y ∈ l) st => ServedR (n := m) (x := y) (by omega) hR ok hll hls (by have := (hg.ok y hy).2.1; omega) st
  refine wo_dcall Tryz.func38 rfl (by decide) rfl 33 rfl (fun a hal ha => ?_)
  have h0 : a[0]? = some (.loc k 0 0) := ha 0 (by simp)
  have h1 : a[1]? = some (.loc p 0 0) := ha 1 (by simp)
  clear ha
  simp (maxSteps := 1000000) (disch := omega) only [push_cast, ↓wc_seq, ↓wc_block, ↓wc_region, ↓wr_cons, ↓wr_nil, ↓wc_wl, Nat.reduceAdd, Nat.reduceMul, ↓reduceIte, Nat.reduceBEq]
  refine wl_loop (fun i a T => (T = S1 ∧ ∀ (j : Nat) w, j < i → l[j]? = some w → servedF s w = false) ∧ a.length = 33 ∧ a[0]? = some (.loc k 0 0) ∧ a[1]? = some (.loc p 0 0) ∧ a[4]? = some (.loc S.length 0 0) ∧ a[6]? = some (.int .i64 i)) l.length ?_ (by omega) ?_
  ·simp (maxSteps := 1000000) (disch := omega) only [push_cast, Nat.reduceLT, Nat.reduceEqDiff, ↓reduceIte, reduceCtorEq, hal, h0, h1, Int.natCast_zero]
   exact ⟨hS1.symm, fun j w hj => by omega⟩
  clear hal h0 h1 a
  rintro i a T hi ⟨⟨rfl, hz⟩, hal, h0, h1, h4, h6⟩
  rcases Nat.lt_or_eq_of_le hi with hlt | rfl
  case inr =>
   have hno : l.find? (fun y => servedF s y) = none := List.find?_eq_none.2 fun y hy => by
    obtain ⟨j, hj⟩ := List.mem_iff_getElem?.1 hy
    simpa using hz j y (lt_of_get hj) hj
   unfold nextE
   rw [hno]
   simp only [zW] at g0 ⊢
   rcases w2' with ⟨rfl, rfl⟩ | ⟨q, rfl, hq⟩
   ·simp (maxSteps := 1000000) (disch := omega) only [push_cast, ↓wc_seq, ↓wc_condL, ↓wc_region, ↓wr_cons, ↓wr_nil, ↓wc_exit, ↓wc_ret, Nat.reduceAdd, Nat.reduceMul, Nat.reduceLT, Nat.reduceLeDiff, Nat.reduceEqDiff, ↓wo_build, ↓reduceIte, Nat.reduceBEq, reduceCtorEq, hal, h0, h4, h6, g1, g0, List.getElem?_set_self gi, Int.lt_irrefl, Int.natCast_zero, Tryz.f38]
    exact ⟨_, e1 _⟩
   ·simp (maxSteps := 1000000) (disch := omega) only [push_cast, ↓wc_seq, ↓wc_condL, ↓wc_region, ↓wr_cons, ↓wr_nil, ↓wc_exit, ↓wc_ret, Nat.reduceAdd, Nat.reduceMul, Nat.reduceLT, Nat.reduceLeDiff, Nat.reduceEqDiff, ↓wo_build, ↓reduceIte, Nat.reduceBEq, reduceCtorEq, hal, h0, h4, h6, g1, g0, List.getElem?_set_self gi, Int.lt_irrefl, Tryz.f38]
    exact ⟨_, e1 _⟩
  obtain ⟨y, hy⟩ : ∃ y, l[i]? = some y := ⟨l[i], by simp⟩
  have hym := List.mem_of_getElem? hy
  have cs := cs y hym
  rcases w2' with ⟨-, rfl⟩ | ⟨q, rfl, hq⟩
  ·simp at hlt
  cases hsv : servedF s y
  ·rw [hsv] at cs
   simp only [Wt.enc] at cs
   simp (maxSteps := 1000000) (disch := omega) only [push_cast, ↓wc_seq, ↓wc_block, ↓wc_condL, ↓wc_region, ↓wr_cons, ↓wr_nil, ↓wo_callf, ↓wc_skip, Nat.reduceAdd, Nat.reduceMul, Nat.reduceLT, Nat.reduceLeDiff, Nat.reduceEqDiff, ↓reduceIte, Nat.reduceBEq, reduceCtorEq, hal, h0, h1, h4, h6, g1, hq, hlt, hy, cs, Wt.enc, wrap_ok, Int.natCast_add, Int.natCast_one]
   intro j w hj hw
   rcases Nat.lt_or_eq_of_le (Nat.le_of_lt_succ hj) with hj | rfl
   ·exact hz j w hj hw
   ·rw [hy] at hw
    cases hw
    exact hsv
  ·rw [hsv] at cs
   have hyes : l.find? (fun y => servedF s y) = some y := by
    obtain ⟨hi', rfl⟩ := List.getElem?_eq_some_iff.1 hy
    refine List.find?_eq_some_iff_getElem.2 ⟨hsv, i, hi', rfl, fun j hj => ?_⟩
    simpa using hz j _ hj (List.getElem?_eq_getElem (by omega))
   unfold nextE
   rw [hyes]
   simp only [Wt.enc, zW] at cs g0
   simp (maxSteps := 1000000) (disch := omega) only [push_cast, ↓wc_seq, ↓wc_block, ↓wc_condL, ↓wc_region, ↓wr_cons, ↓wr_nil, ↓wo_callf, ↓wc_ret, ↓wc_skip, Nat.reduceAdd, Nat.reduceMul, Nat.reduceLT, Nat.reduceLeDiff, Nat.reduceEqDiff, ↓reduceIte, Nat.reduceBEq, reduceCtorEq, hal, h0, h1, h4, h6, g1, g0, hq, hlt, hy, cs, List.getElem?_set_self gi, Wt.enc, Tryz.f38]
   exact ⟨_, e1 _⟩
 obtain ⟨d, T, ho, J, rfl, rfl⟩ := this
 refine callD_obsJ rfl (by simp [pureL_cons, D.pure]) ho ?_
 unfold nextE
 split
 ·simp [D.pure, pureL_cons, pureL_nil, Wt_pure]
 ·rfl
def Lst (S : List Ob) (d : D) (l : List Wt) : Prop := (l = [] ∧ (d = .nils ∨ d = .sl 5 [] true ∨ ∃ q es, d = .os q 0 0 false ∧ S[q]? = some (.row 5 es))) ∨ (l ≠ [] ∧ ∃ q, d = .os q 0 l.length false ∧ S[q]? = some (.row 5 (l.map Wt.enc)))
theorem GL.lst {d : D} (h : GL 5 Wt.enc S d l) : Lst S d l := by
 by_cases hl : l = []
 ·subst hl
  rcases h with ⟨rfl, -⟩ | ⟨q, rfl, hq⟩
  ·exact .inl ⟨rfl, .inl rfl⟩
  ·exact .inl ⟨rfl, .inr (.inr ⟨q, _, rfl, hq⟩)⟩
 ·rcases h with ⟨-, h⟩ | ⟨q, h1, h2⟩
  ·exact (hl h).elim
  ·exact .inr ⟨hl, q, h1, h2⟩
theorem LiO.lst {d : D} (h : LiO S d l) : Lst S d l := by
 rcases h with ⟨rfl, rfl | rfl⟩ | ⟨h0, q, h1, h2⟩
 ·exact .inl ⟨rfl, .inl rfl⟩
 ·exact .inl ⟨rfl, .inr (.inl rfl)⟩
 ·exact .inr ⟨h0, q, h1, h2⟩
theorem Lst.push {d : D} (h : Lst S d l) (J : List Ob) : Lst (S ++ J) d l := by
 rcases h with ⟨h0, h | h | ⟨q, es, h1, h2⟩⟩ | ⟨h0, q, h1, h2⟩
 ·exact .inl ⟨h0, .inl h⟩
 ·exact .inl ⟨h0, .inr (.inl h)⟩
 ·exact .inl ⟨h0, .inr (.inr ⟨q, es, h1, get_psh h2 J⟩)⟩
 ·exact .inr ⟨h0, q, h1, get_psh h2 J⟩
theorem same_d {d e : D} (hn : l.length + 140 ≤ n) (hl : l.length ≤ 900) (hw : ∀ y ∈ l, y.legs.length ≤ 100) (h1 : Lst S d l) (h2 : Lst S e l) :
  WO (dcall E (n + 1) 13 [d, e] S) fun r T => r = .bool true ∧ T = S := by
 rcases h1 with ⟨rfl, h1⟩ | ⟨hne, q, rfl, hq⟩
 ·have h2 : (e = .nils ∨ e = .sl 5 [] true ∨ ∃ q es, e = .os q 0 0 false ∧ S[q]? = some (.row 5 es)) := by
   rcases h2 with ⟨-, h2⟩ | ⟨h, -⟩
   ·exact h2
   ·exact (h rfl).elim
  rcases h1 with rfl | rfl | ⟨q, es, rfl, hq⟩ <;> rcases h2 with rfl | rfl | ⟨q', es', rfl, hq'⟩
  all_goals
   refine wo_dcall Tryz.func13 rfl (by decide) rfl 27 rfl (fun a hal ha => ?_)
   have h0 : a[0]? = some (_) := ha 0 (by simp)
   have h1 : a[1]? = some (_) := ha 1 (by simp)
   clear ha
   simp (maxSteps := 1000000) (disch := omega) only [push_cast, ↓wc_seq, ↓wc_block, ↓wc_condL, ↓wc_region, ↓wr_cons, ↓wr_nil, ↓wc_skip, ↓wc_wl, Nat.reduceAdd, Nat.reduceMul, Nat.reduceLT, Nat.reduceEqDiff, ↓reduceIte, Nat.reduceBEq, reduceCtorEq, not_true_eq_false, hal, h0, h1, Int.natCast_zero]
   refine wl_loop (fun i b T => T = S ∧ b.length = 27 ∧ b[0]? = a[0]? ∧ b[5]? = some (.int .i64 0)) 0 ?_ (by omega) ?_
   ·simp (maxSteps := 1000000) (disch := omega) only [push_cast, Nat.reduceLT, ↓reduceIte, reduceCtorEq, hal, h0]
   rintro i b T hi ⟨rfl, hbl, hb0, h5⟩
   rw [h0] at hb0
   simp (maxSteps := 1000000) (disch := omega) only [push_cast, ↓wc_seq, ↓wc_condL, ↓wc_region, ↓wr_cons, ↓wr_nil, ↓wc_exit, ↓wc_ret, Nat.reduceAdd, Nat.reduceMul, Nat.reduceLT, Nat.reduceEqDiff, ↓reduceIte, Nat.reduceBEq, reduceCtorEq, h5, hbl, hb0, Int.lt_irrefl, Int.natCast_zero, Tryz.f13]
 ·obtain ⟨q', rfl, hq'⟩ : ∃ q', e = .os q' 0 l.length false ∧ S[q']? = some (.row 5 (l.map Wt.enc)) := by
   rcases h2 with ⟨h, -⟩ | ⟨-, h⟩
   ·exact (hne h).elim
   ·exact h
  refine wo_dcall Tryz.func13 rfl (by decide) rfl 27 rfl (fun a hal ha => ?_)
  have h0 : a[0]? = some (.os q 0 l.length false) := ha 0 (by simp)
  have h1 : a[1]? = some (.os q' 0 l.length false) := ha 1 (by simp)
  clear ha
  simp (maxSteps := 1000000) (disch := omega) only [push_cast, ↓wc_seq, ↓wc_block, ↓wc_condL, ↓wc_region, ↓wr_cons, ↓wr_nil, ↓wc_skip, ↓wc_wl, Nat.reduceAdd, Nat.reduceMul, Nat.reduceLT, Nat.reduceEqDiff, ↓reduceIte, Nat.reduceBEq, reduceCtorEq, not_true_eq_false, hal, h0, h1]
  refine wl_loop (fun i a T => T = S ∧ a.length = 27 ∧ a[0]? = some (.os q 0 l.length false) ∧ a[1]? = some (.os q' 0 l.length false) ∧ a[5]? = some (.int .i64 i)) l.length ?_ (by omega) ?_
  ·simp (maxSteps := 1000000) (disch := omega) only [push_cast, Nat.reduceLT, Nat.reduceEqDiff, ↓reduceIte, reduceCtorEq, hal, h0, h1, Int.natCast_zero]
  clear hal h0 h1 a
  rintro i a T hi ⟨rfl, hal, h0, h1, h5⟩
  rcases Nat.lt_or_eq_of_le hi with hlt | rfl
  case inr =>
   simp (maxSteps := 1000000) (disch := omega) only [push_cast, ↓wc_seq, ↓wc_condL, ↓wc_region, ↓wr_cons, ↓wr_nil, ↓wc_exit, ↓wc_ret, Nat.reduceAdd, Nat.reduceMul, Nat.reduceLT, Nat.reduceEqDiff, ↓reduceIte, Nat.reduceBEq, reduceCtorEq, hal, h0, h5, Nat.lt_irrefl, Tryz.f13]
  obtain ⟨y, hy⟩ : ∃ y, l[i]? = some y := ⟨l[i], by simp⟩
  have cs := fun st S => Same_c (n := n) (x := y) (by omega) (hw y (List.mem_of_getElem? hy)) st S
  simp only [Wt.enc] at cs
  simp (maxSteps := 1000000) (disch := omega) only [push_cast, ↓wc_seq, ↓wc_block, ↓wc_condL, ↓wc_region, ↓wr_cons, ↓wr_nil, ↓wo_callf, ↓wc_skip, Nat.reduceAdd, Nat.reduceMul, Nat.reduceLT, Nat.reduceLeDiff, Nat.reduceEqDiff, ↓reduceIte, Nat.reduceBEq, reduceCtorEq, hal, h0, h1, h5, hlt, hq, hq', hy, cs, Wt.enc, dUn, Bool.not_true, wrap_ok, Int.natCast_add, Int.natCast_one]
theorem same_c {d e : D} (hn : l.length + 141 ≤ n) (hl : l.length ≤ 900) (hw : ∀ y ∈ l, y.legs.length ≤ 100) (h1 : Lst S d l) (h2 : Lst S e l) (st : Bool) : callD E (dcall E n) st S 13 [d, e] = some (.bool true, S) := by
 obtain ⟨m, rfl⟩ : ∃ m, n = m + 1 := ⟨n - 1, by omega⟩
 cases hp : pureL [d, e]
 ·obtain ⟨_, _, ho, rfl, rfl⟩ := same_d (n := m) (by omega) hl hw h1 h2
  exact callD_obsJ (J := []) rfl hp (by rw [List.append_nil]; exact ho) rfl
 ·have p1 : Lst [] d l := by
   rcases h1 with ⟨h0, h | h | ⟨q, es, h1, h2⟩⟩ | ⟨h0, q, h1, h2⟩
   ·exact .inl ⟨h0, .inl h⟩
   ·exact .inl ⟨h0, .inr (.inl h)⟩
   ·rw [h1] at hp; simp [pureL_cons, D.pure] at hp
   ·rw [h1] at hp; simp [pureL_cons, D.pure] at hp
  have p2 : Lst [] e l := by
   rcases h2 with ⟨h0, h | h | ⟨q, es, h1, h2⟩⟩ | ⟨h0, q, h1, h2⟩
   ·exact .inl ⟨h0, .inl h⟩
   ·exact .inl ⟨h0, .inr (.inl h)⟩
   ·rw [h1] at hp; simp [pureL_cons, pureL_nil, D.pure] at hp
   ·rw [h1] at hp; simp [pureL_cons, pureL_nil, D.pure] at hp
  obtain ⟨_, _, ho, rfl, rfl⟩ := same_d (n := m) (by omega) hl hw p1 p2
  exact callD_obsPn rfl hp ho rfl
end
end Wl
end Go.Proofs.YthkbiiammhekfaaGreatDoor.Dm
