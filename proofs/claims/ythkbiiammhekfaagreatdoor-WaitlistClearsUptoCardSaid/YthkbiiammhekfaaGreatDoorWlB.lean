/-
  The order of a waiting list: the program's comparison and its search.
-/
import Derived.Test.YthkbiiammhekfaaGreatDoorWlM
set_option linter.unusedSimpArgs false
set_option linter.unusedVariables false
namespace Go.Proofs.YthkbiiammhekfaaGreatDoor.Dm
open Go Gw
set_option linter.unusedSimpArgs false
set_option linter.unusedSimpArgs false
namespace Wl

def cI (u v : Int) : Int := if u < v then -1 else if v < u then 1 else 0
def ordF (a b : Wt) : Int := if cI b.rk a.rk ≠ 0 then cI b.rk a.rk else cI a.id b.id
def ahead (a b : Wt) : Prop := b.rk < a.rk ∨ (a.rk = b.rk ∧ a.id < b.id)
instance (a b : Wt) : Decidable (ahead a b) := by unfold ahead; infer_instance
theorem ordF_neg {a b : Wt} : ordF a b < 0 ↔ ahead a b := by
 unfold ordF cI ahead
 by_cases h1 : b.rk < a.rk
 ·simp [h1]
 ·by_cases h2 : a.rk < b.rk
  ·simp [h1, h2]
   omega
  ·have h3 : a.rk = b.rk := by omega
   simp [h3]
   by_cases h4 : a.id < b.id
   ·simp [h4]
   ·by_cases h5 : b.id < a.id
    ·simp [h4, h5]
    ·simp [h4, h5]
theorem ahead_trans {a b c : Wt} (h : ahead a b) (g : ahead b c) : ahead a c := by
 unfold ahead at *
 omega
section
variable {n : Nat} {S : List Ob} {st : Bool}
set_option maxRecDepth 100000 in
theorem nanI_w (hn : 1 ≤ n) (u : Int) : callD E (dcall E n) st S 77 [.int .i64 u] = some (.bool false, S) := by
 obtain ⟨m, rfl⟩ : ∃ m, n = m + 1 := ⟨n - 1, by omega⟩
 have : WO (dcall E (m + 1) 77 [.int .i64 u] []) fun d _ => d = .bool false := by
  refine wo_dcall Tryz.func77 rfl (by decide) rfl 6 rfl (fun a hal ha => ?_)
  have h0 : a[0]? = some (.int .i64 u) := ha 0 (by simp)
  clear ha
  simp (maxSteps := 1000000) (disch := omega) only [push_cast, ↓wc_seq, ↓wc_region, ↓wr_cons, ↓wr_nil, ↓wc_ret, Nat.reduceAdd, Nat.reduceMul, Nat.reduceLT, Nat.reduceEqDiff, ↓reduceIte, Nat.reduceBEq, reduceCtorEq, hal, h0, bne_self_eq_false, Tryz.f77]
 obtain ⟨d, T, ho, rfl⟩ := this
 exact callD_pure rfl rfl ho rfl
set_option maxRecDepth 100000 in
theorem cI_c (hn : 2 ≤ n) (u v : Int) : callD E (dcall E n) st S 33 [.int .i64 u, .int .i64 v] = some (.int .i64 (cI u v), S) := by
 obtain ⟨m, rfl⟩ : ∃ m, n = m + 1 := ⟨n - 1, by omega⟩
 have c1 := fun st S => nanI_w (n := m) (st := st) (S := S) (by omega) u
 have c2 := fun st S => nanI_w (n := m) (st := st) (S := S) (by omega) v
 have : WO (dcall E (m + 1) 33 [.int .i64 u, .int .i64 v] []) fun d _ => d = .int .i64 (cI u v) := by
  refine wo_dcall Tryz.func33 rfl (by decide) rfl 20 rfl (fun a hal ha => ?_)
  have h0 : a[0]? = some (.int .i64 u) := ha 0 (by simp)
  have h1 : a[1]? = some (.int .i64 v) := ha 1 (by simp)
  clear ha
  unfold cI
  by_cases h : u < v
  ·rw [if_pos h]
   simp (maxSteps := 1000000) (disch := omega) only [push_cast, ↓wc_seq, ↓wc_condL, ↓wc_region, ↓wr_cons, ↓wr_nil, ↓wo_callf, ↓wc_ret, ↓wc_skip, Nat.reduceAdd, Nat.reduceMul, Nat.reduceLT, Nat.reduceEqDiff, Int.reduceNeg, ↓reduceIte, Nat.reduceBEq, reduceCtorEq, hal, h0, h1, c1, c2, h, Tryz.f33]
  ·rw [if_neg h]
   by_cases h' : v < u
   ·rw [if_pos h']
    simp (maxSteps := 1000000) (disch := omega) only [push_cast, ↓wc_seq, ↓wc_condL, ↓wc_region, ↓wr_cons, ↓wr_nil, ↓wo_callf, ↓wc_ret, ↓wc_skip, Nat.reduceAdd, Nat.reduceMul, Nat.reduceLT, Nat.reduceEqDiff, Int.reduceNeg, ↓reduceIte, Nat.reduceBEq, reduceCtorEq, gt_iff_lt, hal, h0, h1, c1, c2, h, h', Tryz.f33]
   ·rw [if_neg h']
    simp (maxSteps := 1000000) (disch := omega) only [push_cast, ↓wc_seq, ↓wc_condL, ↓wc_region, ↓wr_cons, ↓wr_nil, ↓wo_callf, ↓wc_ret, ↓wc_skip, Nat.reduceAdd, Nat.reduceMul, Nat.reduceLT, Nat.reduceEqDiff, Int.reduceNeg, ↓reduceIte, Nat.reduceBEq, reduceCtorEq, gt_iff_lt, hal, h0, h1, c1, c2, h, h', Tryz.f33]
 obtain ⟨d, T, ho, rfl⟩ := this
 exact callD_pure rfl rfl ho rfl
set_option maxRecDepth 100000 in
theorem or2_c (hn : 5 ≤ n) (u v : Int) (x : Bool) : callD E (dcall E n) st S 32 [.sl 1 [[.int .i64 u], [.int .i64 v]] x] = some (.int .i64 (if u ≠ 0 then u else v), S) := by
 obtain ⟨m, rfl⟩ : ∃ m, n = m + 1 := ⟨n - 1, by omega⟩
 have : WO (dcall E (m + 1) 32 [.sl 1 [[.int .i64 u], [.int .i64 v]] x] []) fun d _ => d = .int .i64 (if u ≠ 0 then u else v) := by
  refine wo_dcall Tryz.func32 rfl (by decide) rfl 18 rfl (fun a hal ha => ?_)
  have h0 : a[0]? = some (.sl 1 [[.int .i64 u], [.int .i64 v]] x) := ha 0 (by simp)
  clear ha
  obtain ⟨r, hr⟩ : ∃ r, (if u ≠ 0 then u else v) = r := ⟨_, rfl⟩
  rw [hr]
  simp (maxSteps := 1000000) (disch := omega) only [push_cast, ↓wc_seq, ↓wc_block, ↓wc_region, ↓wr_cons, ↓wr_nil, ↓wc_wl, Nat.reduceAdd, Nat.reduceMul, Nat.reduceLT, Int.reduceAdd, ↓reduceIte, Nat.reduceBEq, reduceCtorEq, hal, h0, List.length_cons]
  refine wl_loop (fun i a T => ((0 < i → u = 0) ∧ (1 < i → v = 0)) ∧ a.length = 18 ∧ a[3]? = some (.int .i64 0) ∧ a[6]? = some (.sl 1 [[.int .i64 u], [.int .i64 v]] x) ∧ a[7]? = some (.int .i64 2) ∧ a[8]? = some (.int .i64 i)) 2 ?_ (by omega) ?_
  ·simp (maxSteps := 1000000) (disch := omega) only [push_cast, Nat.reduceLT, Nat.reduceEqDiff, ↓reduceIte, hal, Int.natCast_zero, Nat.lt_irrefl, Nat.not_lt_zero]
  clear hal h0 a
  rintro i a T hi ⟨⟨hu, hv⟩, hal, h3, h6, h7, h8⟩
  match i, hi with
  | 0, _ =>
   by_cases h : u = 0
   ·simp (maxSteps := 1000000) (disch := omega) only [push_cast, ↓wc_seq, ↓wc_block, ↓wc_condL, ↓wc_region, ↓wr_cons, ↓wr_nil, ↓wc_skip, Nat.reduceAdd, Nat.reduceMul, Nat.reduceLT, Nat.reduceEqDiff, Int.reduceAdd, Int.reduceLT, Int.reduceLE, ↓reduceIte, Nat.reduceBEq, not_true_eq_false, hal, h3, h6, h7, h8, h, Int.natCast_zero, wrap_ok, Int.natCast_one, Nat.lt_irrefl, Nat.one_pos]
   ·rw [if_pos h] at hr
    subst hr
    simp (maxSteps := 1000000) (disch := omega) only [push_cast, ↓wc_seq, ↓wc_block, ↓wc_condL, ↓wc_region, ↓wr_cons, ↓wr_nil, ↓wc_ret, ↓wc_skip, Nat.reduceAdd, Nat.reduceMul, Nat.reduceLT, Nat.reduceEqDiff, Int.reduceLT, Int.reduceLE, ↓reduceIte, Nat.reduceBEq, not_false_eq_true, hal, h3, h6, h7, h8, h, Int.natCast_zero, Tryz.f32]
  | 1, _ =>
   have hu := hu (by omega)
   rw [if_neg (by simpa using hu)] at hr
   subst hr
   by_cases h : v = 0
   ·simp (maxSteps := 1000000) (disch := omega) only [push_cast, ↓wc_seq, ↓wc_block, ↓wc_condL, ↓wc_region, ↓wr_cons, ↓wr_nil, ↓wc_skip, Nat.reduceAdd, Nat.reduceMul, Nat.reduceLT, Nat.reduceEqDiff, Int.reduceAdd, Int.reduceLT, Int.reduceLE, ↓reduceIte, Nat.reduceBEq, not_true_eq_false, hal, h3, h6, h7, h8, h, hu, Int.natCast_one, wrap_ok]
   ·simp (maxSteps := 1000000) (disch := omega) only [push_cast, ↓wc_seq, ↓wc_block, ↓wc_condL, ↓wc_region, ↓wr_cons, ↓wr_nil, ↓wc_ret, ↓wc_skip, Nat.reduceAdd, Nat.reduceMul, Nat.reduceLT, Nat.reduceEqDiff, Int.reduceLT, Int.reduceLE, ↓reduceIte, Nat.reduceBEq, not_false_eq_true, hal, h3, h6, h7, h8, h, hu, Int.natCast_one, Tryz.f32]
  | 2, _ =>
   have hu := hu (by omega)
   have hv := hv (by omega)
   rw [if_neg (by simpa using hu), hv] at hr
   subst hr
   simp (maxSteps := 1000000) (disch := omega) only [push_cast, ↓wc_seq, ↓wc_condL, ↓wc_region, ↓wr_cons, ↓wr_nil, ↓wc_exit, ↓wc_ret, Nat.reduceAdd, Nat.reduceMul, Nat.reduceLT, Nat.reduceEqDiff, Int.reduceAdd, ↓reduceIte, Nat.reduceBEq, hal, h3, h7, h8, Int.lt_irrefl, Tryz.f32]
 obtain ⟨d, T, ho, rfl⟩ := this
 exact callD_pure rfl rfl ho rfl
theorem ord_c {y z : Wt} (hn : 6 ≤ n) : callD E (dcall E n) st S 31 [.agg y.enc, .agg z.enc] = some (.int .i64 (ordF y z), S) := by
 obtain ⟨m, rfl⟩ : ∃ m, n = m + 1 := ⟨n - 1, by omega⟩
 have : WO (dcall E (m + 1) 31 [.agg y.enc, .agg z.enc] []) fun d _ => d = .int .i64 (ordF y z) := by
  have c1 := fun st S => cI_c (n := m) (st := st) (S := S) (by omega) z.rk y.rk
  have c2 := fun st S => cI_c (n := m) (st := st) (S := S) (by omega) y.id z.id
  have co := fun st S x => or2_c (n := m) (st := st) (S := S) (by omega) (cI z.rk y.rk) (cI y.id z.id) x
  unfold ordF
  refine wo_dcall Tryz.func31 rfl (by decide) rfl 17 rfl (fun a hal ha => ?_)
  have h0 : a[0]? = some (.agg y.enc) := ha 0 (by simp)
  have h1 : a[1]? = some (.agg z.enc) := ha 1 (by simp)
  clear ha
  generalize (if cI z.rk y.rk ≠ 0 then cI z.rk y.rk else cI y.id z.id) = r at *
  simp only [Wt.enc] at h0 h1
  simp (maxSteps := 1000000) (disch := omega) only [push_cast, ↓wc_seq, ↓wc_region, ↓wr_cons, ↓wr_nil, ↓wo_callf, ↓wc_ret, Nat.reduceAdd, Nat.reduceMul, Nat.reducePow, Nat.reduceLT, Nat.reduceLeDiff, Nat.reduceEqDiff, ↓wo_buildSlice, ↓reduceIte, Nat.reduceBEq, hal, h0, h1, List.nil_append, List.cons_append, List.length_cons, c1, c2, co, Tryz.f31]
 obtain ⟨d, T, ho, rfl⟩ := this
 exact callD_pure rfl (by simp [pureL_cons, pureL_nil, D.pure, Wt_pure]) ho rfl
theorem callV_ord {call : Call} {dr : Bool} {S : List Ob} {g : FuncId} {x y l : List D} (hm : E.mode g = .pure) : callV E call dr S (.func g x y) l = callD E call dr S g (x ++ l ++ y) := by
 simp [callV, hm]
def OrdL (l : List Wt) : Prop := ∀ (i j : Nat) (y z : Wt), i < j → l[i]? = some y → l[j]? = some z → ahead y z
def posF (x : Wt) (l : List Wt) : Nat := (l.takeWhile fun y => decide (ahead y x)).length
theorem posF_of {x : Wt} {l : List Wt} {i : Nat} (hi : i ≤ l.length) (h1 : ∀ k y, k < i → l[k]? = some y → ahead y x) (h2 : ∀ y, l[i]? = some y → ¬ ahead y x) : posF x l = i := by
 induction l generalizing i with
 | nil => simp at hi; simp [posF, hi]
 | cons a l ih =>
  cases i with
  | zero =>
   have := h2 a rfl
   simp [posF, this]
  | succ i =>
   have h0 := h1 0 a (by omega) rfl
   have := ih (i := i) (by simpa using hi) (fun k y hk hy => h1 (k + 1) y (by omega) (by simpa using hy)) (fun y hy => h2 y (by simpa using hy))
   unfold posF at this ⊢
   simp [h0, this]
set_option maxHeartbeats 4000000 in
set_option maxRecDepth 100000 in
theorem Bin_d {q : Nat} {l : List Wt} {es : List (List D)} {x : Wt} (hn : l.length + 10 ≤ n) (hl : l.length ≤ 100000) (ho : OrdL l) (hq : S[q]? = some (.row 5 es)) (hes : es.take l.length = l.map Wt.enc) :
  WO (dcall E (n + 1) 119 [.os q 0 l.length false, .agg x.enc, fOrd] S) fun d T => ∃ f J, d = .tup [.int .i64 (posF x l), .bool f] ∧ T = S ++ J := by
 have co := fun st S (y z : Wt) => ord_c (n := n) (st := st) (S := S) (y := y) (z := z) (by omega)
 have hq := get_old (J := [Ob.row 5 [x.enc]]) hq
 have he : ∀ (i : Nat) (v : Wt), l[i]? = some v → es[i]? = some v.enc := fun i v hv => by
  have : (es.take l.length)[i]? = some v.enc := by rw [hes, List.getElem?_map, hv]; rfl
  rwa [List.getElem?_take_of_lt (lt_of_get hv)] at this
 refine wo_dcall Tryz.func119 rfl (by decide) rfl 49 rfl (fun a hal ha => ?_)
 have h0 : a[0]? = some (.os q 0 l.length false) := ha 0 (by simp)
 have h1 : a[1]? = some (.agg x.enc) := ha 1 (by simp)
 have h2 : a[2]? = some (fOrd) := ha 2 (by simp)
 clear ha
 simp only [fOrd, Wt.enc] at h1 h2 co hq he
 simp (maxSteps := 1000000) (disch := omega) only [push_cast, ↓wc_seq, ↓wc_block, ↓wc_region, ↓wr_cons, ↓wr_nil, ↓wc_wl, Nat.reduceAdd, Nat.reduceMul, Nat.reduceLT, Nat.reduceEqDiff, ↓reduceIte, Nat.reduceBEq, reduceCtorEq, hal, h0, h1]
 refine wl_loop (fun t a T => (T = S ++ [Ob.row 5 [x.enc]] ∧ ∃ i j : Nat, i ≤ j ∧ j ≤ l.length ∧ j - i + t ≤ l.length ∧ a[9]? = some (.int .i64 i) ∧ a[10]? = some (.int .i64 j) ∧ (∀ k y, k < i → l[k]? = some y → ahead y x) ∧ (∀ k y, j ≤ k → l[k]? = some y → ¬ ahead y x)) ∧ a.length = 49 ∧ a[0]? = some (.os q 0 l.length false) ∧ a[2]? = some (.func 31 [] []) ∧ a[4]? = some (.loc S.length 0 0) ∧ a[8]? = some (.int .i64 l.length)) l.length ?_ (by omega) ?_
 ·simp (maxSteps := 1000000) (disch := omega) only [push_cast, Nat.reduceLT, Nat.reduceEqDiff, ↓reduceIte, reduceCtorEq, hal, h0, h2, Wt.enc]
  refine ⟨0, l.length, by omega, by omega, by omega, rfl, rfl, fun k y hk => by omega, fun k y hk hy => ?_⟩
  have := lt_of_get hy
  omega
 clear hal h0 h1 h2 a
 rintro t a T ht ⟨⟨rfl, i, j, hij, hjl, hm, h9, h10, hb, hc⟩, hal, h0, h2, h4, h8⟩
 simp only [Wt.enc]
 by_cases hlt : i < j
 ·have hlt' : (i : Int) < j := by omega
  obtain ⟨h, hh⟩ : ∃ h, h = (i + j) / 2 := ⟨_, rfl⟩
  have e1 : IntKind.i64.wrap ((i : Int) + j) = i + j := wrap_ok (by omega) (by omega)
  have e2 : IntKind.u64.wrap ((i : Int) + j) = i + j := Int.emod_eq_of_lt (by omega) (by show (i : Int) + j < 18446744073709551616; omega)
  have e3 : dShift .shr .u64 ((i : Int) + j) 1 = some (.int .u64 h) := by
   show some (D.int .u64 (((i : Int) + j).fdiv 2)) = _
   rw [Int.fdiv_eq_ediv_of_nonneg _ (by decide), hh]
   congr 2
  have e4 : IntKind.i64.wrap (h : Int) = h := wrap_ok (by omega) (by omega)
  have hhl : h < l.length := by omega
  obtain ⟨v, hv⟩ : ∃ v, l[h]? = some v := ⟨l[h], by simp⟩
  have hev := he h v hv
  have cv := fun dr S l => callV_ord (call := dcall E n) (dr := dr) (S := S) (l := l) (x := []) (y := []) (g := 31) rfl
  by_cases hc' : ordF v x < 0
  ·have hav := ordF_neg.1 hc'
   simp (maxSteps := 1000000) (disch := omega) only [push_cast, ↓wc_seq, ↓wc_block, ↓wc_condL, ↓wc_region, ↓wr_cons, ↓wr_nil, ↓wc_skip, Nat.reduceAdd, Nat.reduceMul, Nat.reduceLT, Nat.reduceLeDiff, Nat.reduceEqDiff, ↓reduceIte, Nat.reduceBEq, reduceCtorEq, hal, h0, h2, h4, h8, h9, h10, hlt', e1, e2, e3, e4, hq, hhl, hev, ↓wo_callv, cv, co, hc', get_end, List.nil_append, List.append_nil, wrap_ok]
   refine ⟨by omega, h + 1, j, by omega, hjl, by omega, by simp, rfl, fun k y hk hy => ?_, hc⟩
   rcases Nat.lt_or_eq_of_le (Nat.le_of_lt_succ hk) with hk | rfl
   ·exact ahead_trans (ho k h y v hk hy hv) hav
   ·rw [hv] at hy
    cases hy
    exact hav
  ·have hav := fun g => hc' (ordF_neg.2 g)
   simp (maxSteps := 1000000) (disch := omega) only [push_cast, ↓wc_seq, ↓wc_block, ↓wc_condL, ↓wc_region, ↓wr_cons, ↓wr_nil, ↓wc_skip, Nat.reduceAdd, Nat.reduceMul, Nat.reduceLT, Nat.reduceLeDiff, Nat.reduceEqDiff, ↓reduceIte, Nat.reduceBEq, reduceCtorEq, hal, h0, h2, h4, h8, h9, h10, hlt', e1, e2, e3, e4, hq, hhl, hev, ↓wo_callv, cv, co, hc', get_end, List.nil_append, List.append_nil]
   refine ⟨by omega, i, h, by omega, by omega, by omega, rfl, rfl, hb, fun k y hk hy hay => ?_⟩
   rcases Nat.lt_or_eq_of_le hk with hk | rfl
   ·exact hav (ahead_trans (ho h k v y hk hv hy) hay)
   ·rw [hv] at hy
    cases hy
    exact hav hay
 ·have hlt' : ¬ ((i : Int) < j) := by omega
  have hp : posF x l = i := posF_of (by omega) hb (fun y hy => hc i y (by omega) hy)
  have cv := fun dr S l => callV_ord (call := dcall E n) (dr := dr) (S := S) (l := l) (x := []) (y := []) (g := 31) rfl
  rw [hp]
  by_cases hil : i < l.length
  ·have hil' : (i : Int) < l.length := by omega
   obtain ⟨v, hv⟩ : ∃ v, l[i]? = some v := ⟨l[i], by simp⟩
   have hev := he i v hv
   simp (maxSteps := 1000000) (disch := omega) only [push_cast, ↓wc_seq, ↓wc_condL, ↓wc_region, ↓wr_cons, ↓wr_consgL, ↓wr_nil, ↓wo_pickL, ↓wc_exit, ↓wc_ret, Nat.reduceAdd, Nat.reduceMul, Nat.reduceLT, Nat.reduceLeDiff, Nat.reduceEqDiff, ↓reduceIte, Nat.reduceBEq, reduceCtorEq, hal, h0, h2, h4, h8, h9, h10, hlt', hil', hq, hev, ↓wo_callv, cv, co, get_end, List.nil_append, List.append_nil, Tryz.f119]
   exact ⟨_, _, rfl, rfl⟩
  ·have hil' : ¬ ((i : Int) < l.length) := by omega
   simp (maxSteps := 1000000) (disch := omega) only [push_cast, ↓wc_seq, ↓wc_condL, ↓wc_region, ↓wr_cons, ↓wr_consgL, ↓wr_nil, ↓wo_pickL, ↓wc_exit, ↓wc_ret, Nat.reduceAdd, Nat.reduceMul, Nat.reduceLT, Nat.reduceEqDiff, ↓reduceIte, Nat.reduceBEq, hal, h8, h9, h10, hlt', hil', Tryz.f119]
   exact ⟨_, _, rfl, rfl⟩
end
end Wl
end Go.Proofs.YthkbiiammhekfaaGreatDoor.Dm
