/-
  A waiting list's order is kept.
  What is asked of a request, exactly.
  A waiting list with one request, and an inventory: Clear.
-/
import Derived.Test.YthkbiiammhekfaaGreatDoorWlH
import Derived.Test.YthkbiiammhekfaaGreatDoorWlM
set_option linter.unusedSimpArgs false
set_option linter.unusedVariables false
namespace Go.Proofs.YthkbiiammhekfaaGreatDoor.Dm
open Go Gw
namespace Wl
theorem ordL_iff {l : List Wt} : OrdL l ↔ l.Pairwise ahead := by
 rw [List.pairwise_iff_getElem]
 constructor
 ·intro h i j hi hj hij
  exact h i j _ _ hij (List.getElem?_eq_getElem hi) (List.getElem?_eq_getElem hj)
 ·intro h i j y z hij hy hz
  obtain ⟨hi, rfl⟩ := List.getElem?_eq_some_iff.1 hy
  obtain ⟨hj, rfl⟩ := List.getElem?_eq_some_iff.1 hz
  exact h i j hi hj hij
theorem ahead_total {y x : Wt} (h : y.id ≠ x.id) : ahead y x ∨ ahead x y := by
 unfold ahead
 omega
theorem take_posF (x : Wt) (l : List Wt) : l.take (posF x l) = l.takeWhile fun y => decide (ahead y x) := by
 induction l with
 | nil => rfl
 | cons a l ih =>
  unfold posF at ih ⊢
  by_cases h : ahead a x
  ·simp [h, ih]
  ·simp [h]
theorem drop_posF (x : Wt) (l : List Wt) : l.drop (posF x l) = l.dropWhile fun y => decide (ahead y x) := by
 induction l with
 | nil => rfl
 | cons a l ih =>
  unfold posF at ih ⊢
  by_cases h : ahead a x
  ·simp [h, ih]
  ·simp [h]
theorem insL_cons {x a : Wt} {l : List Wt} : insL x (a :: l) = if ahead a x then a :: insL x l else x :: a :: l := by
 unfold insL
 rw [take_posF, drop_posF, take_posF, drop_posF]
 by_cases h : ahead a x <;> simp [h]
theorem insL_mem {x y : Wt} {l : List Wt} (h : y ∈ insL x l) : y = x ∨ y ∈ l := by
 induction l with
 | nil => simp [insL] at h; exact .inl h
 | cons a l ih =>
  rw [insL_cons] at h
  split at h
  ·rcases List.mem_cons.1 h with rfl | h
   ·exact .inr (by simp)
   ·rcases ih h with h | h
    ·exact .inl h
    ·exact .inr (by simp [h])
  ·rcases List.mem_cons.1 h with rfl | h
   ·exact .inl rfl
   ·exact .inr h
theorem insL_ord {x : Wt} {l : List Wt} (ho : OrdL l) (hid : ∀ y ∈ l, y.id ≠ x.id) : OrdL (insL x l) := by
 rw [ordL_iff] at *
 induction l with
 | nil => simp [insL]
 | cons a l ih =>
  obtain ⟨h1, h2⟩ := List.pairwise_cons.1 ho
  rw [insL_cons]
  split
  ·rename_i hax
   refine List.pairwise_cons.2 ⟨fun y hy => ?_, ih h2 (fun y hy => hid y (by simp [hy]))⟩
   rcases insL_mem hy with rfl | hy
   ·exact hax
   ·exact h1 y hy
  ·rename_i hax
   have hxa := (ahead_total (hid a (by simp))).resolve_left hax
   refine List.pairwise_cons.2 ⟨fun y hy => ?_, ho⟩
   rcases List.mem_cons.1 hy with rfl | hy
   ·exact hxa
   ·exact ahead_trans hxa (h1 y hy)
end Wl
end Go.Proofs.YthkbiiammhekfaaGreatDoor.Dm
namespace Go.Proofs.YthkbiiammhekfaaGreatDoor.Dm
open Go Gw
set_option linter.unusedSimpArgs false
set_option linter.unusedSimpArgs false
namespace Wl
section
variable {n : Nat}
theorem fdxE {l : List Lid} {v : Lid} {lx : Bool} (hn : l.length + 10 ≤ n) (hl : l.length ≤ 100) : ∃ i : Int, (0 ≤ i ↔ v ∈ l) ∧ ∀ st S, callD E (dcall E n) st S 151 [.sl 4 (l.map Lid.enc) lx, .agg v.enc] = some (.int .i64 i, S) := by
 obtain ⟨m, rfl⟩ : ∃ m, n = m + 1 := ⟨n - 1, by omega⟩
 have : WO (dcall E (m + 1) 151 [.sl 4 (l.map Lid.enc) lx, .agg v.enc] []) fun d T => ∃ i : Int, d = .int .i64 i ∧ (0 ≤ i ↔ v ∈ l) := by
  refine wo_dcall Tryz.func151 rfl (by decide) rfl 19 rfl (fun a hal ha => ?_)
  have h0 : a[0]? = some (.sl 4 (l.map Lid.enc) lx) := ha 0 (by simp)
  have h1 : a[1]? = some (.agg v.enc) := ha 1 (by simp)
  clear ha
  have he := fun w => eq_lid v w
  have hpl := plain_lid
  simp only [Lid.enc] at h1 he
  simp (maxSteps := 1000000) (disch := omega) only [push_cast, ↓wc_seq, ↓wc_block, ↓wc_region, ↓wr_cons, ↓wr_nil, ↓wc_wl, Nat.reduceAdd, Nat.reduceMul, Nat.reduceLT, Int.reduceNeg, ↓reduceIte, Nat.reduceBEq, reduceCtorEq, hal, h0, h1, List.nil_append]
  refine wl_loop (fun i a T => (T = [Ob.row 4 [v.enc]] ∧ ∀ (j : Nat) w, j < i → l[j]? = some w → v ≠ w) ∧ a.length = 19 ∧ a[0]? = some (.sl 4 (l.map Lid.enc) lx) ∧ a[3]? = some (.loc 0 0 0) ∧ a[7]? = some (.int .i64 l.length) ∧ a[8]? = some (.int .i64 i)) l.length ?_ (by omega) ?_
  ·simp (maxSteps := 1000000) (disch := omega) only [push_cast, Nat.reduceLT, Nat.reduceEqDiff, ↓reduceIte, reduceCtorEq, ne_eq, hal, h0, Int.natCast_zero, Lid.enc]
   exact fun j w hj => by omega
  clear hal h0 h1 a
  rintro i a T hi ⟨⟨rfl, hz⟩, hal, h0, h3, h7, h8⟩
  rcases Nat.lt_or_eq_of_le hi with hlt | rfl
  case inr =>
   have hv : ¬ v ∈ l := fun hm => by
    obtain ⟨j, hj⟩ := List.mem_iff_getElem?.1 hm
    exact hz j v (lt_of_get hj) hj rfl
   simp (maxSteps := 1000000) (disch := omega) only [push_cast, ↓wc_seq, ↓wc_condL, ↓wc_region, ↓wr_cons, ↓wr_nil, ↓wc_exit, ↓wc_ret, Nat.reduceAdd, Nat.reduceMul, Nat.reduceLT, Int.reduceNeg, ↓reduceIte, Nat.reduceBEq, ne_eq, hal, h7, h8, Nat.lt_irrefl, Tryz.f151]
   exact ⟨_, rfl, by omega, fun h => (hv h).elim⟩
  obtain ⟨w, hq⟩ : ∃ w, l[i]? = some w := ⟨l[i], by simp⟩
  have he := he w
  by_cases hb : v = w
  ·have hm : v ∈ l := by rw [hb]; exact List.mem_of_getElem? hq
   rw [decide_eq_true hb] at he
   simp (maxSteps := 1000000) (disch := omega) only [push_cast, ↓wc_seq, ↓wc_block, ↓wc_condL, ↓wc_region, ↓wr_cons, ↓wr_nil, ↓wc_ret, ↓wc_skip, Nat.reduceAdd, Nat.reduceMul, Nat.reduceLT, Nat.reduceLeDiff, Nat.reduceEqDiff, Int.reduceNeg, ↓reduceIte, Nat.reduceBEq, reduceCtorEq, ne_eq, hal, h0, h3, h7, h8, hlt, hq, Lid.enc, hpl, he, Tryz.f151]
   exact ⟨_, rfl, fun _ => hm, fun _ => by omega⟩
  ·rw [decide_eq_false hb] at he
   simp (maxSteps := 1000000) (disch := omega) only [push_cast, ↓wc_seq, ↓wc_block, ↓wc_condL, ↓wc_region, ↓wr_cons, ↓wr_nil, ↓wc_skip, Nat.reduceAdd, Nat.reduceMul, Nat.reduceLT, Nat.reduceLeDiff, Nat.reduceEqDiff, Int.reduceNeg, ↓reduceIte, Nat.reduceBEq, reduceCtorEq, ne_eq, hal, h0, h3, h7, h8, hlt, hq, Lid.enc, hpl, he, wrap_ok, Int.natCast_add, Int.natCast_one]
   intro j w' hj hw'
   rcases Nat.lt_or_eq_of_le (Nat.le_of_lt_succ hj) with hj | rfl
   ·exact hz j w' hj hw'
   ·rw [hq] at hw'
    cases hw'
    exact hb
 obtain ⟨d, T, ho, i, rfl, hi⟩ := this
 exact ⟨i, hi, fun st S => callD_pure rfl (by simp [pureL_cons, pureL_nil, D.pure, Lids_pure, Lid_pure]) ho rfl⟩
theorem hasE {l : List Lid} {v : Lid} {lx : Bool} (hn : l.length + 11 ≤ n) (hl : l.length ≤ 100) (st : Bool) (S : List Ob) : callD E (dcall E n) st S 116 [.sl 4 (l.map Lid.enc) lx, .agg v.enc] = some (.bool (decide (v ∈ l)), S) := by
 obtain ⟨m, rfl⟩ : ∃ m, n = m + 1 := ⟨n - 1, by omega⟩
 obtain ⟨i, hi, ci⟩ := fdxE (n := m) (v := v) (lx := lx) (by omega) hl
 have : WO (dcall E (m + 1) 116 [.sl 4 (l.map Lid.enc) lx, .agg v.enc] []) fun d T => d = .bool (decide (v ∈ l)) := by
  have hge : decide (i ≥ 0) = decide (v ∈ l) := by simp [← hi]
  refine wo_dcall Tryz.func116 rfl (by decide) rfl 9 rfl (fun a hal ha => ?_)
  have h0 : a[0]? = some (.sl 4 (l.map Lid.enc) lx) := ha 0 (by simp)
  have h1 : a[1]? = some (.agg v.enc) := ha 1 (by simp)
  clear ha
  simp only [Lid.enc] at h1 ci
  simp (maxSteps := 1000000) (disch := omega) only [push_cast, ↓wc_seq, ↓wc_region, ↓wr_cons, ↓wr_nil, ↓wo_callf, ↓wc_ret, Nat.reduceAdd, Nat.reduceMul, Nat.reduceLT, Nat.reduceLeDiff, Nat.reduceEqDiff, ↓reduceIte, Nat.reduceBEq, reduceCtorEq, hal, h0, h1, List.nil_append, ci, hge, Tryz.f116]
 obtain ⟨d, T, ho, rfl⟩ := this
 exact callD_pure rfl (by simp [pureL_cons, pureL_nil, D.pure, Lids_pure, Lid_pure]) ho rfl
theorem nodup_succ {l : List Lid} {i : Nat} {w : Lid} (hw : l[i]? = some w) : (l.take (i + 1)).Nodup ↔ (l.take i).Nodup ∧ w ∉ l.take i := by
 obtain ⟨hi, rfl⟩ := List.getElem?_eq_some_iff.1 hw
 rw [List.take_succ_eq_append_getElem hi, List.nodup_append]
 simp
 intro _
 constructor
 ·intro h hm
  exact h _ hm rfl
 ·rintro h a ha rfl
  exact h ha
def validB (x : Wt) : Bool := decide (1 ≤ x.id) && decide (x.legs ≠ []) && decide (1 ≤ x.cnt) && decide (x.cnt ≤ 99) && decide x.legs.Nodup
set_option maxHeartbeats 4000000 in
theorem validE {x : Wt} (hn : 200 ≤ n) (hl : x.legs.length ≤ 6) (st : Bool) (S : List Ob) : callD E (dcall E n) st S 70 [.agg x.enc] = some (.bool (validB x), S) := by
 obtain ⟨m, rfl⟩ : ∃ m, n = m + 1 := ⟨n - 1, by omega⟩
 have : WO (dcall E (m + 1) 70 [.agg x.enc] []) fun d T => d = .bool (validB x) := by
  refine wo_dcall Tryz.func70 rfl (by decide) rfl 39 rfl (fun a hal ha => ?_)
  have h0 : a[0]? = some (.agg x.enc) := ha 0 (by simp)
  clear ha
  simp only [Wt.enc] at h0
  by_cases c1 : x.id < 1
  ·rw [show validB x = false by simp [validB]; omega]
   simp (maxSteps := 1000000) (disch := omega) only [push_cast, ↓wc_seq, ↓wc_condL, ↓wc_region, ↓wr_cons, ↓wr_consgL, ↓wr_nil, ↓wo_pickL, ↓wc_ret, Nat.reduceAdd, Nat.reduceMul, Nat.reduceLT, Nat.reduceEqDiff, ↓reduceIte, Nat.reduceBEq, hal, h0, List.nil_append, c1, Tryz.f70]
  by_cases c2 : x.legs = []
  ·rw [show validB x = false by simp [validB, c2]]
   simp (maxSteps := 1000000) (disch := omega) only [push_cast, ↓wc_seq, ↓wc_condL, ↓wc_region, ↓wr_cons, ↓wr_consgL, ↓wr_nil, ↓wo_pickL, ↓wc_ret, Nat.reduceAdd, Nat.reduceMul, Nat.reduceLT, Nat.reduceEqDiff, ↓reduceIte, Nat.reduceBEq, hal, h0, List.nil_append, c1, c2, List.map_nil, Int.natCast_zero, Tryz.f70]
  have c2' : ¬ ((x.legs.length : Int) = 0) := by
   have := List.length_pos_iff.2 c2
   omega
  by_cases c3 : x.cnt < 1
  ·rw [show validB x = false by simp [validB]; omega]
   simp (maxSteps := 1000000) (disch := omega) only [push_cast, ↓wc_seq, ↓wc_condL, ↓wc_region, ↓wr_cons, ↓wr_consgL, ↓wr_nil, ↓wo_pickL, ↓wc_ret, Nat.reduceAdd, Nat.reduceMul, Nat.reduceLT, Nat.reduceEqDiff, ↓reduceIte, Nat.reduceBEq, hal, h0, List.nil_append, c1, c2', c3, Tryz.f70]
  by_cases c4 : (99 : Int) < x.cnt
  ·rw [show validB x = false by simp [validB]; omega]
   simp (maxSteps := 1000000) (disch := omega) only [push_cast, ↓wc_seq, ↓wc_condL, ↓wc_region, ↓wr_cons, ↓wr_consgL, ↓wr_nil, ↓wo_pickL, ↓wc_ret, Nat.reduceAdd, Nat.reduceMul, Nat.reduceLT, Nat.reduceEqDiff, ↓reduceIte, Nat.reduceBEq, gt_iff_lt, hal, h0, List.nil_append, c1, c2', c3, c4, Tryz.f70]
  have hvb : validB x = decide x.legs.Nodup := by
   simp [validB, c2, show 1 ≤ x.id by omega, show 1 ≤ x.cnt by omega, show x.cnt ≤ 99 by omega]
  rw [hvb]
  simp (maxSteps := 1000000) (disch := omega) only [push_cast, ↓wc_seq, ↓wc_block, ↓wc_condL, ↓wc_region, ↓wr_cons, ↓wr_consgL, ↓wr_nil, ↓wo_pickL, ↓wc_skip, ↓wc_wl, Nat.reduceAdd, Nat.reduceMul, Nat.reduceLT, Nat.reduceEqDiff, ↓reduceIte, Nat.reduceBEq, gt_iff_lt, hal, h0, List.nil_append, c1, c2', c3, c4]
  refine wl_loop (fun i a T => ((∃ J, T = [Ob.row 5 [x.enc]] ++ J) ∧ (x.legs.take i).Nodup) ∧ a.length = 39 ∧ a[1]? = some (.loc 0 0 0) ∧ a[25]? = some (.sl 4 (x.legs.map Lid.enc) x.legsx) ∧ a[26]? = some (.int .i64 x.legs.length) ∧ a[27]? = some (.int .i64 i)) x.legs.length ?_ (by omega) ?_
  ·simp (maxSteps := 1000000) (disch := omega) only [push_cast, Nat.reduceLT, Nat.reduceEqDiff, ↓reduceIte, hal, Int.natCast_zero, Wt.enc]
   exact ⟨⟨[], rfl⟩, by simp⟩
  clear hal h0 a
  rintro i a T hi ⟨⟨⟨J, rfl⟩, hnd⟩, hal, h1, h25, h26, h27⟩
  rcases Nat.lt_or_eq_of_le hi with hlt | he
  case inr =>
   have hh : ¬ ((i : Int) < x.legs.length) := by omega
   rw [he, List.take_length] at hnd
   rw [decide_eq_true hnd]
   simp (maxSteps := 1000000) (disch := omega) only [push_cast, ↓wc_seq, ↓wc_condL, ↓wc_region, ↓wr_cons, ↓wr_nil, ↓wc_exit, ↓wc_ret, Nat.reduceAdd, Nat.reduceMul, Nat.reduceLT, ↓reduceIte, Nat.reduceBEq, hal, h26, h27, hh, Tryz.f70]
  obtain ⟨w, hq⟩ : ∃ w, x.legs[i]? = some w := ⟨x.legs[i], by simp⟩
  have cb := fun st S => hasE (n := m) (l := x.legs.take i) (v := w) (lx := false) (by rw [List.length_take]; omega) (by rw [List.length_take]; omega) st S
  have hne : decide (i = x.legs.length) = false := decide_eq_false (by omega)
  have g0 : ∀ o : Ob, (Ob.row 5 [x.enc] :: (J ++ [o]))[J.length + 1]? = some o := fun o => by simp
  have g1 : ∀ o : Ob, (Ob.row 5 [x.enc] :: (J ++ [o])).set (J.length + 1) = fun o' => (Ob.row 5 [x.enc] :: (J ++ [o'])) := fun o => by funext o'; simp
  have hns := nodup_succ hq
  by_cases hm : w ∈ x.legs.take i
  ·have hnn : ¬ x.legs.Nodup := fun h => by
    have := (hns.1 (h.sublist (List.take_sublist _ _))).2
    exact this hm
   rw [decide_eq_false hnn]
   simp only [decide_eq_true hm, Lid.enc, Wt.enc, List.map_take] at cb g0 g1
   simp only [Wt.enc]
   simp (maxSteps := 1000000) (disch := omega) only [push_cast, ↓wc_seq, ↓wc_block, ↓wc_condL, ↓wc_region, ↓wr_cons, ↓wr_nil, ↓wo_callf, ↓wc_ret, ↓wc_skip, Nat.reduceAdd, Nat.reduceMul, Nat.reduceLT, Nat.reduceLeDiff, Nat.reduceEqDiff, ↓reduceIte, Nat.reduceBEq, hal, h1, h25, h26, h27, hlt, hq, hi, hne, Nat.zero_le, Nat.sub_zero, List.drop_zero, Bool.and_false, Lid.enc, List.cons_append, List.nil_append, List.length_cons, cb, g0, g1, Tryz.f70]
  ·have hnd' := hns.2 ⟨hnd, hm⟩
   simp only [decide_eq_false hm, Lid.enc, Wt.enc, List.map_take] at cb g0 g1
   simp only [Wt.enc]
   simp (maxSteps := 1000000) (disch := omega) only [push_cast, ↓wc_seq, ↓wc_block, ↓wc_condL, ↓wc_region, ↓wr_cons, ↓wr_nil, ↓wo_callf, ↓wc_skip, Nat.reduceAdd, Nat.reduceMul, Nat.reduceLT, Nat.reduceLeDiff, Nat.reduceEqDiff, ↓reduceIte, Nat.reduceBEq, hal, h1, h25, h26, h27, hlt, hq, hi, hne, Nat.zero_le, Nat.sub_zero, List.drop_zero, Bool.and_false, Lid.enc, List.cons_append, List.nil_append, List.length_cons, cb, g0, g1, wrap_ok, Int.natCast_add, Int.natCast_one]
   exact ⟨⟨_, rfl⟩, hnd'⟩
 obtain ⟨d, T, ho, rfl⟩ := this
 exact callD_pure rfl (by simp [pureL_cons, pureL_nil, D.pure, Wt_pure]) ho rfl
end
end Wl
end Go.Proofs.YthkbiiammhekfaaGreatDoor.Dm
namespace Go.Proofs.YthkbiiammhekfaaGreatDoor.Dm
open Go Gw
set_option linter.unusedSimpArgs false
set_option linter.unusedSimpArgs false

theorem SAt.but {S T : List Ob} {lab : Lab} {o k p : Nat} {s : Stk} (h : SAt S lab o p s) (hk : lab k = []) (hb : ButAt k S T) : SAt T lab o p s := by
 obtain ⟨hf, m, ps, h⟩ := h
 refine ⟨fun x hx => hf x (Nat.le_trans hb.1 hx), m, ps, h.keep fun x ob t hx hl => ⟨?_, hl⟩⟩
 rw [hb.2 x (lt_of_get hx) (by rintro rfl; rw [hk] at hl; cases hl)]
 exact hx
theorem SLeft_c {S : List Ob} {lab : Lab} {o k n : Nat} {s : Stk} {id : Lid} (hn : 180 ≤ n) (h : SAt S lab o k s) (ok : StkOk 9999 s) (hid : id.Ok) (cl : ByteArray) (st : Bool) :
  callD E (dcall E n) st S 16 [.loc k 0 0, .agg id.enc, .str cl] = some (.int .i64 (s.left id cl), S) := by
 obtain ⟨-, m, ps, h⟩ := h
 exact Left_c hn h ok hid cl st
section
variable {n : Nat} {S : List Ob} {st : Bool} {lab : Lab} {o p : Nat} {s : Stk}
theorem served1_s {x : Wt} {w : Lid} {i j : Nat} {b : Bool} (hn : 200 ≤ n) (hi : S[i]? = some (.row 1 [[.loc p 0 0]])) (hj : S[j]? = some (.row 5 [x.enc])) (hs : SAt S lab o p s) (ok : StkOk 9999 s) (hw : w.Ok) (hb : decide (s.left w x.cl < x.cnt) = b) :
  callD E (dcall E n) false S 94 [.agg w.enc, .loc i 0 0, .loc j 0 0] = some (.bool b, S ++ [.row 4 [w.enc]]) := by
 obtain ⟨m, rfl⟩ : ∃ m, n = m + 1 := ⟨n - 1, by omega⟩
 have hi' := get_psh hi [Ob.row 4 [w.enc]]
 have hj' := get_psh hj [Ob.row 4 [w.enc]]
 have cl := fun st => SLeft_c (n := m) (id := w) (by omega) (hs.push [Ob.row 4 [w.enc]]) ok hw x.cl st
 have : WO (dcall E (m + 1) 94 [.agg w.enc, .loc i 0 0, .loc j 0 0] S) fun d T => d = .bool b ∧ T = S ++ [.row 4 [w.enc]] := by
  refine wo_dcall Tryz.func94 rfl (by decide) rfl 13 rfl (fun a hal ha => ?_)
  have h0 : a[0]? = some (.agg w.enc) := ha 0 (by simp)
  have h1 : a[1]? = some (.loc i 0 0) := ha 1 (by simp)
  have h2 : a[2]? = some (.loc j 0 0) := ha 2 (by simp)
  clear ha
  simp only [Lid.enc, Wt.enc] at h0 hi' hj' cl
  simp (maxSteps := 1000000) (disch := omega) only [push_cast, ↓wc_seq, ↓wc_region, ↓wr_cons, ↓wr_nil, ↓wo_callf, ↓wc_ret, Nat.reduceAdd, Nat.reduceMul, Nat.reduceLT, Nat.reduceLeDiff, Nat.reduceEqDiff, ↓reduceIte, Nat.reduceBEq, hal, h0, h1, h2, hi', hj', cl, hb, get_end, Lid.enc, Tryz.f94]
 obtain ⟨d, T, ho, rfl, rfl⟩ := this
 exact (callD_own rfl (by simp [pureL_cons, D.pure])).trans ho
end
end Go.Proofs.YthkbiiammhekfaaGreatDoor.Dm
