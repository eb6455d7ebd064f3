/-
  A waiting list with any number of requests: Clone, Order, find.
  A waiting list with any number of requests: insert.
-/
import Derived.Test.YthkbiiammhekfaaGreatDoorWlB
import Derived.Test.YthkbiiammhekfaaGreatDoorWlM
set_option linter.unusedSimpArgs false
set_option linter.unusedVariables false
namespace Go.Proofs.YthkbiiammhekfaaGreatDoor.Dm
open Go Gw
set_option linter.unusedSimpArgs false
set_option linter.unusedSimpArgs false
namespace Wl
def LiD (S : List Ob) (d : D) (l : List Wt) : Prop := (d = .nils ∧ l = []) ∨ ∃ q es, d = .os q 0 l.length false ∧ S[q]? = some (.row 5 es) ∧ es.take l.length = l.map Wt.enc
def LiO (S : List Ob) (d : D) (l : List Wt) : Prop := (l = [] ∧ (d = .nils ∨ d = .sl 5 [] true)) ∨ (l ≠ [] ∧ ∃ q, d = .os q 0 l.length false ∧ S[q]? = some (.row 5 (l.map Wt.enc)))
theorem LiD.app {S : List Ob} {d : D} {l : List Wt} (h : LiD S d l) (J : List Ob) : LiD (S ++ J) d l := by
 rcases h with h | ⟨q, es, h1, h2, h3⟩
 ·exact .inl h
 ·exact .inr ⟨q, es, h1, get_psh h2 J, h3⟩
theorem LiO.app {S : List Ob} {d : D} {l : List Wt} (h : LiO S d l) (J : List Ob) : LiO (S ++ J) d l := by
 rcases h with h | ⟨h0, q, h1, h2⟩
 ·exact .inl h
 ·exact .inr ⟨h0, q, h1, get_psh h2 J⟩
section
variable {n : Nat} {S : List Ob} {st : Bool}
theorem appG {q m : Nat} {es : List (List D)} (hq : S[q]? = some (.row 5 es)) (hm : m ≤ es.length) (h0 : 0 < m) (h1 : m ≤ 100000) : dAppend Tryz.prog S 44 44 (.sl 5 [] true) (.os q 0 m false) = some (.os S.length 0 m false, S ++ [.row 5 (es.take m)]) := by
 have hl : (es.take m).length = m := by rw [List.length_take]; omega
 have hb : m * bytesT Tryz.prog 53 ≤ 140737488355328 := Nat.le_trans (Nat.mul_le_mul h1 byW) (by decide)
 have hmx : (m ≤ maxLen) = True := le_max (by omega)
 have hz : (D.agg zW).cells.length = 4 + 1 := rfl
 have e1 : srcOf S (4 + 1) (.os q 0 m false) = some (es.take m) := by simp only [srcOf, hq]; simp [hm]
 have hne : m ≠ 0 := by omega
 simp only [dAppend, elW, show sizeT Tryz.prog 53 = some (4 + 1) from szW, zeW, hz, e1, show srcOf S (4 + 1) (.sl 5 [] true) = some [] from rfl, List.length_nil, Nat.zero_add, hl, hmx, hb, hne, and_self, ↓reduceIte, List.nil_append]
theorem CloneG {d : D} {l : List Wt} (hn : 1 ≤ n) (hl : l.length ≤ 100000) (h : LiD S d l) : ∃ d' J, LiO (S ++ J) d' l ∧ (l ≠ [] → J = [.row 5 (l.map Wt.enc)] ∧ d' = .os S.length 0 l.length false) ∧ ∀ st, callD E (dcall E n) st S 45 [d] = some (d', S ++ J) := by
 rcases h with ⟨rfl, rfl⟩ | ⟨q, es, rfl, hq, hes⟩
 ·exact ⟨.nils, [], .inl ⟨rfl, .inl rfl⟩, fun h => (h rfl).elim, fun st => by rw [List.append_nil]; exact Clone0 hn st S⟩
 ·obtain ⟨m, rfl⟩ : ∃ m, n = m + 1 := ⟨n - 1, by omega⟩
  have e0 : dEq Tryz.prog 10000 44 (.os q 0 l.length false) .nils = some false := by rw [show (10000 : Nat) = 9999 + 1 from rfl]; simp only [dEq, Tryz.underlying44]
  have hle : l.length ≤ es.length := by
   have := congrArg List.length hes
   rw [List.length_take, List.length_map] at this
   omega
  by_cases hl0 : l = []
  ·subst hl0
   have hz : (D.agg zW).cells.length = 4 + 1 := rfl
   have e1 : srcOf S (4 + 1) (.os q 0 0 false) = some [] := by simp only [srcOf, hq]; simp
   have ha : dAppend Tryz.prog S 44 44 (.sl 5 [] true) (.os q 0 0 false) = some (.sl 5 [] true, S) := by
    simp only [dAppend, elW, show sizeT Tryz.prog 53 = some (4 + 1) from szW, zeW, hz, e1, show srcOf S (4 + 1) (.sl 5 [] true) = some [] from rfl, List.length_nil, ↓reduceIte]
   have : WO (dcall E (m + 1) 45 [.os q 0 0 false] S) fun d T => d = .sl 5 [] true ∧ T = S := by
    rw [List.length_nil] at e0
    refine wo_dcall Tryz.func45 rfl (by decide) rfl 8 rfl (fun a hal ha => ?_)
    have h0 : a[0]? = some (.os q 0 0 false) := ha 0 (by simp)
    clear ha
    simp (maxSteps := 1000000) (disch := omega) only [push_cast, ↓wc_seq, ↓wc_condL, ↓wc_region, ↓wr_cons, ↓wr_nil, ↓wc_ret, ↓wc_skip, Nat.reduceAdd, Nat.reduceMul, Nat.reducePow, Nat.reduceLT, Nat.reduceLeDiff, Nat.reduceEqDiff, ↓wo_buildSlice, ↓reduceIte, Nat.reduceBEq, reduceCtorEq, hal, h0, e0, ha, Tryz.f45]
   obtain ⟨d, T, ho, rfl, rfl⟩ := this
   exact ⟨_, [], .inl ⟨rfl, .inr rfl⟩, fun h => (h rfl).elim, fun st => callD_ext rfl (by rw [List.append_nil]; exact ho)⟩
  ·have hpos := List.length_pos_iff.2 hl0
   have ha := appG hq hle hpos hl
   rw [hes] at ha
   have : WO (dcall E (m + 1) 45 [.os q 0 l.length false] S) fun d T => d = .os S.length 0 l.length false ∧ T = S ++ [.row 5 (l.map Wt.enc)] := by
    refine wo_dcall Tryz.func45 rfl (by decide) rfl 8 rfl (fun a hal ha => ?_)
    have h0 : a[0]? = some (.os q 0 l.length false) := ha 0 (by simp)
    clear ha
    simp (maxSteps := 1000000) (disch := omega) only [push_cast, ↓wc_seq, ↓wc_condL, ↓wc_region, ↓wr_cons, ↓wr_nil, ↓wc_ret, ↓wc_skip, Nat.reduceAdd, Nat.reduceMul, Nat.reducePow, Nat.reduceLT, Nat.reduceLeDiff, Nat.reduceEqDiff, ↓wo_buildSlice, ↓reduceIte, Nat.reduceBEq, reduceCtorEq, hal, h0, e0, ha, Tryz.f45]
   obtain ⟨d, T, ho, rfl, rfl⟩ := this
   exact ⟨_, _, .inr ⟨hl0, _, rfl, get_end⟩, fun _ => ⟨rfl, rfl⟩, fun st => callD_ext rfl ho⟩
theorem OrderL' {k : Nat} {d : D} {l : List Wt} (hn : 2 ≤ n) (hl : l.length ≤ 100000) (hk : LiAt S k d) (h : LiD S d l) : ∃ d' J, LiO (S ++ J) d' l ∧ (l ≠ [] → J = [.row 5 (l.map Wt.enc)] ∧ d' = .os S.length 0 l.length false) ∧ ∀ st, callD E (dcall E n) st S 14 [.loc k 0 0] = some (d', S ++ J) := by
 obtain ⟨m, rfl⟩ : ∃ m, n = m + 1 := ⟨n - 1, by omega⟩
 obtain ⟨d', J, h1, h2, cl⟩ := CloneG (n := m) (by omega) hl h
 refine ⟨d', J, h1, h2, fun st => ?_⟩
 have : WO (dcall E (m + 1) 14 [.loc k 0 0] S) fun r T => r = d' ∧ T = S ++ J := by
  unfold LiAt at hk
  refine wo_dcall Tryz.func14 rfl (by decide) rfl 11 rfl (fun a hal ha => ?_)
  have h0 : a[0]? = some (.loc k 0 0) := ha 0 (by simp)
  clear ha
  simp (maxSteps := 1000000) (disch := omega) only [push_cast, ↓wc_seq, ↓wc_condL, ↓wc_region, ↓wr_cons, ↓wr_nil, ↓wo_callf, ↓wc_ret, ↓wc_skip, Nat.reduceAdd, Nat.reduceMul, Nat.reduceLT, ↓reduceIte, Nat.reduceBEq, reduceCtorEq, hal, h0, eqp_list1, hk, cl, Tryz.f14]
 obtain ⟨_, _, ho, rfl, rfl⟩ := this
 exact callD_ext rfl ho
theorem OrderL {k : Nat} {d : D} {l : List Wt} (hn : 2 ≤ n) (hl : l.length ≤ 100000) (hk : LiAt S k d) (h : LiD S d l) : ∃ d' J, LiO (S ++ J) d' l ∧ ∀ st, callD E (dcall E n) st S 14 [.loc k 0 0] = some (d', S ++ J) := by
 obtain ⟨d', J, h1, -, cl⟩ := OrderL' hn hl hk h
 exact ⟨d', J, h1, cl⟩
/-! ### find -/
def idxF (id : Int) : List Wt → Int
 | [] => -1
 | y :: l => if y.id = id then 0 else if idxF id l < 0 then -1 else idxF id l + 1
theorem idxF_hit {id : Int} : ∀ {l : List Wt} {i : Nat} {y : Wt}, l[i]? = some y → y.id = id → (∀ k z, k < i → l[k]? = some z → z.id ≠ id) → idxF id l = i
 | [], i, y, h, _, _ => by simp at h
 | z :: l, 0, y, h, hy, _ => by
  obtain rfl : z = y := by simpa using h
  simp [idxF, hy]
 | z :: l, i + 1, y, h, hy, hk => by
  have h0 := hk 0 z (by omega) rfl
  have := idxF_hit (l := l) (i := i) (by simpa using h) hy (fun k w hk' hw => hk (k + 1) w (by omega) (by simpa using hw))
  unfold idxF
  rw [if_neg h0, this, if_neg (by omega)]
  simp
theorem idxF_miss {id : Int} : ∀ {l : List Wt}, (∀ (k : Nat) z, l[k]? = some z → z.id ≠ id) → idxF id l = -1
 | [], _ => rfl
 | z :: l, hk => by
  have h0 := hk 0 z rfl
  have := idxF_miss (l := l) (fun k w hw => hk (k + 1) w (by simpa using hw))
  unfold idxF
  rw [if_neg h0, this]
  simp
theorem findG1_c {k ia ib : Nat} {x : Wt} {items : D} {id : Int} (hn : 2 ≤ n) (ha : S[ia]? = some (.row 1 [[.loc k 0 0]])) (hb : S[ib]? = some (.row 1 [[.int .i64 id]])) (h : LiAt S k items) :
  callD E (dcall E n) false S 118 [.agg x.enc, .loc ia 0 0, .loc ib 0 0] = some (.bool (decide (x.id = id)), S ++ [.row 5 [x.enc]]) := by
 obtain ⟨m, rfl⟩ : ∃ m, n = m + 1 := ⟨n - 1, by omega⟩
 have ha' := get_psh ha [Ob.row 5 [x.enc]]
 have hb' := get_psh hb [Ob.row 5 [x.enc]]
 have h' := h.app [.row 5 [x.enc]]
 unfold LiAt fId fOrd at h'
 have cn := fun st S => NewId_c (n := m) (st := st) (S := S) (x := x) (by omega)
 have : WO (dcall E (m + 1) 118 [.agg x.enc, .loc ia 0 0, .loc ib 0 0] S) fun d T => d = .bool (decide (x.id = id)) ∧ T = S ++ [.row 5 [x.enc]] := by
  refine wo_dcall Tryz.func118 rfl (by decide) rfl 13 rfl (fun a hal ha => ?_)
  have h0 : a[0]? = some (.agg x.enc) := ha 0 (by simp)
  have h1 : a[1]? = some (.loc ia 0 0) := ha 1 (by simp)
  have h2 : a[2]? = some (.loc ib 0 0) := ha 2 (by simp)
  clear ha
  simp only [Wt.enc] at h0 ha' hb' h' cn
  have cv := fun dr S l => callV_pure (call := dcall E m) (dr := dr) (S := S) (l := l) (x := []) (y := []) (g := 30) rfl
  have t32 : aggT Tryz.prog 86 = some false := by kernel_rfl
  simp (maxSteps := 1000000) (disch := omega) only [push_cast, ↓wc_seq, ↓wc_region, ↓wr_cons, ↓wr_nil, ↓wc_ret, Nat.reduceAdd, Nat.reduceMul, Nat.reduceLT, Nat.reduceLeDiff, Nat.reduceEqDiff, ↓reduceIte, Nat.reduceBEq, hal, h0, h1, h2, ↓wo_callv, cv, t32, ha', hb', h', cn, get_end, Wt.enc, List.nil_append, List.append_nil, Tryz.f118]
 obtain ⟨d, T, ho, rfl, rfl⟩ := this
 exact (callD_own rfl (by simp [pureL_cons, D.pure])).trans ho
theorem IdxG {k ia ib : Nat} {items d : D} {id : Int} {l : List Wt} (hn : l.length + 4 ≤ n) (hl : l.length ≤ 100000) (ha : S[ia]? = some (.row 1 [[.loc k 0 0]])) (hb : S[ib]? = some (.row 1 [[.int .i64 id]])) (hk : LiAt S k items) (h : LiD S d l) :
  WO (dcall E n 117 [d, .func 118 [] [.loc ia 0 0, .loc ib 0 0]] S) fun r T => r = .int .i64 (idxF id l) ∧ ∃ J, T = S ++ J := by
 obtain ⟨m, rfl⟩ : ∃ m, n = m + 1 := ⟨n - 1, by omega⟩
 rcases h with ⟨rfl, rfl⟩ | ⟨q, es, rfl, hq, hes⟩
 ·obtain ⟨_, _, ho, rfl, rfl⟩ := IdxW0 (n := m + 1) (f := .func 118 [] [.loc ia 0 0, .loc ib 0 0]) (by omega) S
  exact ⟨_, _, ho, rfl, [], (List.append_nil _).symm⟩
 ·have he : ∀ (i : Nat) (v : Wt), l[i]? = some v → es[i]? = some v.enc := fun i v hv => by
   have : (es.take l.length)[i]? = some v.enc := by rw [hes, List.getElem?_map, hv]; rfl
   rwa [List.getElem?_take_of_lt (lt_of_get hv)] at this
  refine wo_dcall Tryz.func117 rfl (by decide) rfl 19 rfl (fun a hal ha => ?_)
  have h0 : a[0]? = some (.os q 0 l.length false) := ha 0 (by simp)
  have h1 : a[1]? = some (.func 118 [] [.loc ia 0 0, .loc ib 0 0]) := ha 1 (by simp)
  clear ha
  simp (maxSteps := 1000000) (disch := omega) only [push_cast, ↓wc_seq, ↓wc_block, ↓wc_region, ↓wr_cons, ↓wr_nil, ↓wc_wl, Nat.reduceAdd, Nat.reduceMul, Nat.reduceLT, Int.reduceNeg, ↓reduceIte, Nat.reduceBEq, reduceCtorEq, hal, h0]
  refine wl_loop (fun i a T => ((∃ J, T = S ++ J) ∧ ∀ (j : Nat) z, j < i → l[j]? = some z → z.id ≠ id) ∧ a.length = 19 ∧ a[0]? = some (.os q 0 l.length false) ∧ a[1]? = some (.func 118 [] [.loc ia 0 0, .loc ib 0 0]) ∧ a[7]? = some (.int .i64 l.length) ∧ a[8]? = some (.int .i64 i)) l.length ?_ (by omega) ?_
  ·simp (maxSteps := 1000000) (disch := omega) only [push_cast, Nat.reduceLT, Nat.reduceEqDiff, ↓reduceIte, reduceCtorEq, ne_eq, hal, h0, h1, Int.natCast_zero]
   exact ⟨⟨[], (List.append_nil _).symm⟩, fun j z hj => by omega⟩
  clear hal h0 h1 a
  rintro i a T hi ⟨⟨⟨J, hJ⟩, hz⟩, hal, h0, h1, h7, h8⟩
  rcases Nat.lt_or_eq_of_le hi with hlt | rfl
  case inr =>
   have hm := idxF_miss (l := l) (id := id) (fun j z hz' => hz j z (lt_of_get hz') hz')
   rw [hm]
   simp (maxSteps := 1000000) (disch := omega) only [push_cast, ↓wc_seq, ↓wc_condL, ↓wc_region, ↓wr_cons, ↓wr_nil, ↓wc_exit, ↓wc_ret, Nat.reduceAdd, Nat.reduceMul, Nat.reduceLT, Int.reduceNeg, ↓reduceIte, Nat.reduceBEq, ne_eq, hal, h7, h8, Int.lt_irrefl, Tryz.f117]
   exact ⟨J, hJ⟩
  have hlt' : (i : Int) < l.length := by omega
  obtain ⟨v, hv⟩ : ∃ v, l[i]? = some v := ⟨l[i], by simp⟩
  have hev := he i v hv
  have c1 := findG1_c (n := m) (S := T) (x := v) (by omega) (by rw [hJ]; exact get_psh ha J) (by rw [hJ]; exact get_psh hb J) (by rw [hJ]; exact hk.app J)
  have hqT : T[q]? = some (.row 5 es) := by rw [hJ]; exact get_psh hq J
  simp only [Wt.enc] at hev c1
  by_cases hid : v.id = id
  ·rw [idxF_hit hv hid hz]
   rw [decide_eq_true hid] at c1
   simp (maxSteps := 1000000) (disch := omega) only [push_cast, ↓wc_seq, ↓wc_block, ↓wc_condL, ↓wc_region, ↓wr_cons, ↓wr_nil, ↓wc_ret, ↓wc_skip, Nat.reduceAdd, Nat.reduceMul, Nat.reduceLT, Nat.reduceLeDiff, Nat.reduceEqDiff, Int.reduceNeg, ↓reduceIte, Nat.reduceBEq, reduceCtorEq, ne_eq, hal, h0, h1, h7, h8, ↓wo_callv, callV_func, hlt', hqT, hev, List.nil_append, List.cons_append, c1, Tryz.f117]
   exact ⟨_, by rw [hJ, List.append_assoc]⟩
  ·rw [decide_eq_false hid] at c1
   simp (maxSteps := 1000000) (disch := omega) only [push_cast, ↓wc_seq, ↓wc_block, ↓wc_condL, ↓wc_region, ↓wr_cons, ↓wr_nil, ↓wc_skip, Nat.reduceAdd, Nat.reduceMul, Nat.reduceLT, Nat.reduceLeDiff, Nat.reduceEqDiff, Int.reduceNeg, ↓reduceIte, Nat.reduceBEq, reduceCtorEq, ne_eq, hal, h0, h1, h7, h8, ↓wo_callv, callV_func, hlt', hqT, hev, List.nil_append, List.cons_append, c1, wrap_ok, Int.natCast_add, Int.natCast_one]
   refine ⟨hlt, ⟨_, by rw [hJ, List.append_assoc]⟩, fun j z hj hz' => ?_⟩
   rcases Nat.lt_or_eq_of_le (Nat.le_of_lt_succ hj) with hj | rfl
   ·exact hz j z hj hz'
   ·rw [hv] at hz'
    cases hz'
    exact hid
theorem FindG {k : Nat} {d : D} {id : Int} {l : List Wt} (hn : l.length + 6 ≤ n) (hl : l.length ≤ 100000) (hk : LiAt S k d) (h : LiD S d l) : callD E (dcall E n) st S 71 [.loc k 0 0, .int .i64 id] = some (.int .i64 (idxF id l), S) := by
 obtain ⟨m, rfl⟩ : ∃ m, n = m + 1 := ⟨n - 1, by omega⟩
 have : WO (dcall E (m + 1) 71 [.loc k 0 0, .int .i64 id] S) fun r T => ∃ J, r = .int .i64 (idxF id l) ∧ T = S ++ J := by
  have hk := hk.app [.row 1 [[.loc k 0 0]], .row 1 [[.int .i64 id]]]
  have h := h.app [.row 1 [[.loc k 0 0]], .row 1 [[.int .i64 id]]]
  have g0 : ∀ x y : Ob, (S ++ [x, y])[S.length]? = some x := fun x y => by simp
  have g1 : ∀ x y : Ob, (S ++ [x, y])[S.length + 1]? = some y := fun x y => by simp
  obtain ⟨_, _, c1, rfl, J, rfl⟩ := IdxG (n := m) (ia := S.length) (ib := S.length + 1) (by omega) hl (g0 _ _) (g1 _ _) hk h
  have c1 := (callD_own (call := dcall E m) rfl (by cases d <;> simp [pureL_cons, D.pure])).trans c1
  unfold LiAt at hk
  refine wo_dcall Tryz.func71 rfl (by decide) rfl 11 rfl (fun a hal ha => ?_)
  have h0 : a[0]? = some (.loc k 0 0) := ha 0 (by simp)
  have h1 : a[1]? = some (.int .i64 id) := ha 1 (by simp)
  clear ha
  simp (maxSteps := 1000000) (disch := omega) only [push_cast, ↓wc_seq, ↓wc_region, ↓wr_cons, ↓wr_nil, ↓wo_callf, ↓wc_ret, Nat.reduceAdd, Nat.reduceMul, Nat.reduceLT, Nat.reduceEqDiff, ↓reduceIte, Nat.reduceBEq, hal, h0, h1, List.append_assoc, List.cons_append, List.nil_append, List.length_append, List.length_cons, g0, hk, c1, Tryz.f71]
  exact ⟨_, rfl⟩
 obtain ⟨_, T, ho, J, rfl, rfl⟩ := this
 exact callD_obsJ rfl rfl ho rfl
end
end Wl
end Go.Proofs.YthkbiiammhekfaaGreatDoor.Dm
namespace Go.Proofs.YthkbiiammhekfaaGreatDoor.Dm
open Go Gw
set_option linter.unusedSimpArgs false
set_option linter.unusedSimpArgs false
namespace Wl
def insL (x : Wt) (l : List Wt) : List Wt := l.take (posF x l) ++ [x] ++ l.drop (posF x l)
theorem posF_le (x : Wt) (l : List Wt) : posF x l ≤ l.length := by
 unfold posF
 exact (List.takeWhile_sublist _).length_le
def LiN (b : Nat) (S : List Ob) (d : D) (l : List Wt) : Prop := ∃ q es, d = .os q 0 l.length false ∧ b ≤ q ∧ S[q]? = some (.row 5 es) ∧ es.take l.length = l.map Wt.enc
theorem LiN.le {a b : Nat} {S : List Ob} {d : D} {l : List Wt} (h : LiN b S d l) (hab : a ≤ b) : LiN a S d l := by
 obtain ⟨q, es, h1, h0, h2, h3⟩ := h
 exact ⟨q, es, h1, Nat.le_trans hab h0, h2, h3⟩
section
variable {n : Nat} {S : List Ob} {st : Bool}
theorem Insert_sl {m : Nat} {x : List D} {b : Bool} : WO (dcall E0 (m + 1) 120 [.sl 5 [] true, .int .i64 0, .sl 5 [x] b] S) fun d T => d = .os S.length 0 1 false ∧ T = S ++ [.row 5 [x]] := by
 refine wo_dcall Tryz.func120 rfl (by decide) rfl 95 rfl (fun a hal ha => ?_)
 have h0 : a[0]? = some (.sl 5 [] true) := ha 0 (by simp)
 have h1 : a[1]? = some (.int .i64 0) := ha 1 (by simp)
 have h2 : a[2]? = some (.sl 5 [x] b) := ha 2 (by simp)
 clear ha
 have ha := appW (S := S) (s := .sl 5 [] true) (x := .sl 5 [x] b) (.inr rfl) rfl
 simp (maxSteps := 1000000) (disch := omega) only [push_cast, ↓wc_seq, ↓wc_condL, ↓wc_region, ↓wr_cons, ↓wr_nil, ↓wc_ret, ↓wc_skip, Nat.reduceAdd, Nat.reduceMul, Nat.reduceSub, Nat.reduceLT, Nat.reduceLeDiff, Nat.reduceEqDiff, Int.reduceAdd, Int.reduceLE, Int.reduceEq, ↓reduceIte, Nat.reduceBEq, reduceCtorEq, hal, h0, h1, h2, ha, Int.natCast_zero, Tryz.f120]
theorem appE {k : Nat} {es : List (List D)} {x : List D} {b : Bool} (hk : S[k]? = some (.row 5 es)) (hn : es.length ≤ 100000) : dAppend Tryz.prog S 44 44 (.os k 0 es.length false) (.sl 5 [x] b) = some (.os S.length 0 (es.length + 1) false, S.set k .dead ++ [.row 5 (es ++ [x])]) := by
 have hb : (es.length + 1) * bytesT Tryz.prog 53 ≤ 140737488355328 := Nat.le_trans (Nat.mul_le_mul (Nat.succ_le_succ hn) byW) (by decide)
 have hmx : (es.length + 1 ≤ maxLen) = True := le_max (by omega)
 have hz : (D.agg zW).cells.length = 4 + 1 := rfl
 have e1 : srcOf S (4 + 1) (.os k 0 es.length false) = some es := by simp only [srcOf, hk]; simp
 simp only [dAppend, elW, show sizeT Tryz.prog 53 = some (4 + 1) from szW, zeW, hz, e1, show srcOf S (4 + 1) (.sl 5 [x] b) = some [x] from rfl, List.length_cons, List.length_nil, Nat.zero_add, hmx, hb, hk, Nat.succ_ne_zero, and_self, ↓reduceIte]
theorem Insert_end {m k : Nat} {es : List (List D)} {x : List D} {b : Bool} (hk : S[k]? = some (.row 5 es)) (h0 : 0 < es.length) (hn : es.length ≤ 100000) : WO (dcall E0 (m + 1) 120 [.os k 0 es.length false, .int .i64 es.length, .sl 5 [x] b] S) fun d T => d = .os S.length 0 (es.length + 1) false ∧ T = S.set k .dead ++ [.row 5 (es ++ [x])] := by
 have ha := appE (x := x) (b := b) hk hn
 have hc0 := h0
 generalize hl : es.length = c at *
 refine wo_dcall Tryz.func120 rfl (by decide) rfl 95 rfl (fun a hal ha => ?_)
 have h0 : a[0]? = some (.os k 0 c false) := ha 0 (by simp)
 have h1 : a[1]? = some (.int .i64 c) := ha 1 (by simp)
 have h2 : a[2]? = some (.sl 5 [x] b) := ha 2 (by simp)
 clear ha
 have q1 : (0 : Int) ≤ (c : Int) := by omega
 simp (maxSteps := 1000000) (disch := omega) only [push_cast, ↓wc_seq, ↓wc_condL, ↓wc_region, ↓wr_cons, ↓wr_nil, ↓wc_ret, ↓wc_skip, Nat.reduceAdd, Nat.reduceMul, Nat.reduceLT, Nat.reduceEqDiff, Int.reduceAdd, Int.reduceEq, ↓reduceIte, Nat.reduceBEq, reduceCtorEq, hal, h0, h1, h2, hk, q1, hc0, if_pos, ha, Tryz.f120]
theorem InsertG {k : Nat} {es : List (List D)} {x : List D} {b : Bool} {p : Nat} (hn : 1 ≤ n) (hk : S[k]? = some (.row 5 es)) (h0 : 0 < es.length) (hl : es.length ≤ 1000) (hp : p ≤ es.length) :
  callD E (dcall E n) st S 120 [.os k 0 es.length false, .int .i64 p, .sl 5 [x] b] = some (.os S.length 0 (es.length + 1) false, S.set k .dead ++ [.row 5 (es.take p ++ [x] ++ es.drop p)]) := by
 obtain ⟨m, rfl⟩ : ∃ m, n = m + 1 := ⟨n - 1, by omega⟩
 have e1 : E.prim 120 = some Wl.insP := rfl
 have e2 : dcall E (m + 1) 120 [.os k 0 es.length false, .int .i64 p, .sl 5 [x] b] S = Wl.insP [.os k 0 es.length false, .int .i64 p, .sl 5 [x] b] S := by simp only [dcall, e1, show E.mode 120 = .gen from rfl, reduceCtorEq, ↓reduceIte]
 rw [callD_genw rfl, e2]
 unfold Wl.insP
 by_cases hlt : p < es.length
 ·have e3 : Wl.insQ [.os k 0 es.length false, .int .i64 p, .sl 5 [x] b] S = some (.os S.length 0 (es.length + 1) false, S.set k .dead ++ [.row 5 (es.take p ++ [x] ++ es.drop p)]) := by
   have q1 : (0 : Int) ≤ p ∧ (p : Int) < es.length ∧ es.length ≤ 1000 := ⟨by omega, by omega, hl⟩
   simp only [insQ, hk]
   rw [if_pos ⟨trivial, q1⟩]
   simp
  rw [e3]
 ·obtain rfl : p = es.length := by omega
  have e3 : Wl.insQ [.os k 0 es.length false, .int .i64 es.length, .sl 5 [x] b] S = none := by
   simp only [insQ, hk]
   rw [if_neg (by omega)]
  rw [e3]
  obtain ⟨d, T, ho, rfl, rfl⟩ := Insert_end (m := 99) (x := x) (b := b) hk h0 (by omega)
  rw [List.take_length, List.drop_length, List.append_nil]
  exact ho
theorem BinG {d : D} {l : List Wt} {x : Wt} (hn : l.length + 12 ≤ n) (hl : l.length ≤ 100000) (ho : OrdL l) (h : LiD S d l) :
  ∃ f J, callD E (dcall E n) false S 119 [d, .agg x.enc, fOrd] = some (.tup [.int .i64 (posF x l), .bool f], S ++ J) := by
 obtain ⟨m, rfl⟩ : ∃ m, n = m + 1 := ⟨n - 1, by omega⟩
 rcases h with ⟨rfl, rfl⟩ | ⟨q, es, rfl, hq, hes⟩
 ·exact ⟨false, [], by rw [List.append_nil]; exact BinN (by omega)⟩
 ·obtain ⟨_, _, hb, f, J, rfl, rfl⟩ := Bin_d (n := m) (x := x) (by omega) hl ho hq hes
  exact ⟨f, J, (callD_own rfl (by simp [pureL_cons, D.pure])).trans hb⟩
theorem insertG {k : Nat} {d : D} {l : List Wt} {x : Wt} (hn : l.length + 20 ≤ n) (hl : l.length ≤ 900) (ho : OrdL l) (hk : LiAt S k d) (h : LiD S d l) :
  ∃ T d', (∀ st, callD E (dcall E n) st S 73 [.loc k 0 0, .agg x.enc] = some (.tup [], T)) ∧ LiAt T k d' ∧ LiN S.length T d' (insL x l) ∧ ButAt k S T := by
 obtain ⟨m, rfl⟩ : ∃ m, n = m + 1 := ⟨n - 1, by omega⟩
 have : WO (dcall E (m + 1) 73 [.loc k 0 0, .agg x.enc] S) fun r T => r = .tup [] ∧ ∃ d', LiAt T k d' ∧ LiN S.length T d' (insL x l) ∧ ButAt k S T := by
  have hkl := lt_of_get hk
  have w1 := hk.app [.row 5 [x.enc]]
  obtain ⟨f, J, cb⟩ := BinG (n := m) (x := x) (by omega) (by omega) ho (h.app [.row 5 [x.enc]])
  have w2 := w1.app J
  unfold LiAt at w1 w2
  refine wo_dcall Tryz.func73 rfl (by decide) rfl 31 rfl (fun a hal ha => ?_)
  have h0 : a[0]? = some (.loc k 0 0) := ha 0 (by simp)
  have h1 : a[1]? = some (.agg x.enc) := ha 1 (by simp)
  clear ha
  simp only [Wt.enc] at h1 w1 cb
  refine wc_scut (fun a T => T = S ++ [Ob.row 5 [x.enc]] ∧ a.length = 31 ∧ a[0]? = some (.loc k 0 0) ∧ a[3]? = some (.loc S.length 0 0)) ?_ ?_
  ·simp (maxSteps := 1000000) (disch := omega) only [push_cast, ↓wc_region, ↓wr_cons, ↓wr_nil, Nat.reduceAdd, Nat.reduceMul, Nat.reduceLT, ↓reduceIte, Nat.reduceBEq, reduceCtorEq, hal, h0, h1, Wt.enc]
  clear hal h0 h1 a
  rintro a T ⟨rfl, hal, h0, h3⟩
  simp only [Wt.enc]
  refine wc_scut (fun a T => T = S ++ [Ob.row 5 [x.enc]] ++ J ∧ a.length = 31 ∧ a[0]? = some (.loc k 0 0) ∧ a[3]? = some (.loc S.length 0 0) ∧ a[4]? = some (.int .i64 (posF x l))) ?_ ?_
  ·simp (maxSteps := 1000000) (disch := omega) only [push_cast, ↓wc_region, ↓wr_cons, ↓wo_callf, Nat.reduceAdd, Nat.reduceMul, Nat.reduceLT, Nat.reduceLeDiff, Nat.reduceEqDiff, ↓reduceIte, Nat.reduceBEq, reduceCtorEq, hal, h0, h3, w1, get_end, Wt.enc]
   generalize hst : strictR (envOf primOf) _ = st'
   have hb : st' = false := by rw [← hst]; kernel_rfl
   subst hb
   simp (maxSteps := 1000000) (disch := omega) only [push_cast, ↓wr_cons, ↓wr_nil, Nat.reduceLT, Nat.reduceEqDiff, ↓reduceIte, reduceCtorEq, hal, h0, h3, cb]
  clear hal h0 h3 a
  rintro a T ⟨rfl, hal, h0, h3, h4⟩
  have hD := (h.app [.row 5 [x.enc]]).app J
  obtain ⟨d2, J2, hO, hne, cl⟩ := CloneG (n := m) (by omega) (by omega) hD
  have g3 : (S ++ [Ob.row 5 [x.enc]] ++ J ++ J2)[S.length]? = some (.row 5 [x.enc]) := get_psh (get_psh get_end J) J2
  have g3' : (S ++ [Ob.row 5 [x.enc]] ++ J)[S.length]? = some (.row 5 [x.enc]) := get_psh get_end J
  obtain ⟨q, V, ci, hV, hq⟩ : ∃ q V, (∀ st b, callD E (dcall E m) st (S ++ [Ob.row 5 [x.enc]] ++ J ++ J2) 120 [d2, .int .i64 (posF x l), .sl 5 [x.enc] b] = some (.os q 0 (insL x l).length false, V)) ∧ ButAt k (S ++ [Ob.row 5 [x.enc]] ++ J) V ∧ (V[q]? = some (.row 5 ((insL x l).map Wt.enc)) ∧ q ≠ k ∧ V[k]? = (S ++ [Ob.row 5 [x.enc]] ++ J)[k]? ∧ S.length ≤ q) := by
   have hlen : S.length + 1 + J.length = (S ++ [Ob.row 5 [x.enc]] ++ J).length := by simp only [List.length_append, List.length_cons, List.length_nil]
   by_cases hl0 : l = []
   ·subst hl0
    have hins : insL x [] = [x] := rfl
    have hpos : posF x [] = 0 := rfl
    rw [hins, hpos]
    refine ⟨(S ++ [Ob.row 5 [x.enc]] ++ J ++ J2).length, S ++ [Ob.row 5 [x.enc]] ++ J ++ J2 ++ [Ob.row 5 [x.enc]], fun st b => ?_, (ButAt.push J2).trans (ButAt.push _), get_end, by simp; omega, ?_, by simp <;> omega⟩
    ·rcases hO with ⟨-, rfl | rfl⟩ | ⟨h, -⟩
     ·exact Insert_c (by omega)
     ·obtain ⟨mm, rfl⟩ : ∃ mm, m = mm + 1 := ⟨m - 1, by omega⟩
      obtain ⟨_, _, hi, rfl, rfl⟩ := Insert_sl (m := 99) (S := S ++ [Ob.row 5 [x.enc]] ++ J ++ J2) (x := x.enc) (b := b)
      have e1 : E.prim 120 = some Wl.insP := rfl
      have e2 : dcall E (mm + 1) 120 [.sl 5 [] true, .int .i64 0, .sl 5 [x.enc] b] (S ++ [Ob.row 5 [x.enc]] ++ J ++ J2) = Wl.insP [.sl 5 [] true, .int .i64 0, .sl 5 [x.enc] b] (S ++ [Ob.row 5 [x.enc]] ++ J ++ J2) := by simp only [dcall, e1, show E.mode 120 = .gen from rfl, reduceCtorEq, ↓reduceIte]
      have e3 : Wl.insQ [.sl 5 [] true, .int .i64 0, .sl 5 [x.enc] b] (S ++ [Ob.row 5 [x.enc]] ++ J ++ J2) = none := rfl
      show callD E _ st _ _ [.sl 5 [] true, .int .i64 0, .sl 5 [x.enc] b] = _
      rw [callD_genw rfl, e2]
      unfold Wl.insP
      rw [e3]
      exact hi
     ·exact (h rfl).elim
    ·rw [List.getElem?_append_left (by simp; omega), List.getElem?_append_left (by omega)]
   ·obtain ⟨rfl, rfl⟩ := hne hl0
    have hpl : 0 < (l.map Wt.enc).length := by rw [List.length_map]; exact List.length_pos_iff.2 hl0
    have hins : (insL x l).map Wt.enc = (l.map Wt.enc).take (posF x l) ++ [x.enc] ++ (l.map Wt.enc).drop (posF x l) := by simp [insL, List.map_take, List.map_drop]
    have hil : (insL x l).length = (l.map Wt.enc).length + 1 := by
     have := posF_le x l
     simp [insL]
     omega
    have cg := fun st b => InsertG (n := m) (st := st) (S := S ++ [Ob.row 5 [x.enc]] ++ J ++ [Ob.row 5 (l.map Wt.enc)]) (k := (S ++ [Ob.row 5 [x.enc]] ++ J).length) (x := x.enc) (b := b) (p := posF x l) (by omega) get_end hpl (by rw [List.length_map]; omega) (by rw [List.length_map]; exact posF_le x l)
    rw [← hins, ← hil] at cg
    rw [List.length_map] at cg
    refine ⟨_, _, cg, ?_, ?_, by simp; omega, ?_, by simp <;> omega⟩
    ·exact ((ButAt.push _).setn _ (Nat.le_refl _)).trans (ButAt.push _)
    ·rw [show (S ++ [Ob.row 5 [x.enc]] ++ J ++ [Ob.row 5 (l.map Wt.enc)]).length = ((S ++ [Ob.row 5 [x.enc]] ++ J ++ [Ob.row 5 (l.map Wt.enc)]).set (S ++ [Ob.row 5 [x.enc]] ++ J).length .dead).length by simp]
     exact get_end
    ·rw [List.getElem?_append_left (by simp; omega), List.getElem?_set_ne (by omega), List.getElem?_append_left (by omega)]
  obtain ⟨hq1, hq2, hq3, hq4⟩ := hq
  have hkV : V[k]? = some (.row 4 [[d, fId, fOrd, .bool true]]) := hq3.trans w2
  rw [wc_plan (p := steps [0, 1, 2, 3, 4, 6, 7, 5, 8, 9, 10, 11, 12] .done) rfl]
  rw [wp_pick rfl]
  simp only [opsOf, List.filterMap_cons, List.filterMap_nil, List.getElem?_toArray, List.getElem?_cons_zero, List.getElem?_cons_succ]
  simp only [Wt.enc] at w2 cl g3 g3' ci ⊢
  simp (maxSteps := 1000000) (disch := omega) only [push_cast, ↓wr_cons, ↓wr_nil, ↓wo_callf, Nat.reduceAdd, Nat.reduceMul, Nat.reducePow, Nat.reduceLT, Nat.reduceLeDiff, Nat.reduceEqDiff, ↓wo_buildSlice, ↓reduceIte, Nat.reduceBEq, reduceCtorEq, hal, h0, h3, h4, w2, cl, ci, g3', hkV, wp_done, ↓set_sorti, id_eq, Tryz.f73]
  refine ⟨_, ?_, ⟨q, _, rfl, hq4, (List.getElem?_set_ne (Ne.symm hq2)).trans hq1, List.take_of_length_le (by simp)⟩, (((ButAt.push _).trans (ButAt.push J)).trans hV).trans (ButAt.set _)⟩
  unfold LiAt
  rw [List.getElem?_set_self (lt_of_get hkV)]
 obtain ⟨r, T, ho, rfl, d', h1, h2, h3⟩ := this
 exact ⟨T, d', fun st => (callD_genw rfl).trans ho, h1, h2, h3⟩
end
end Wl
end Go.Proofs.YthkbiiammhekfaaGreatDoor.Dm
