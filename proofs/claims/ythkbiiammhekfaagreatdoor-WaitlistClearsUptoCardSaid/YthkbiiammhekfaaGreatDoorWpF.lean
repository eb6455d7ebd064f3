/-
  The reference's waiting list: Join, Leave, Clear.
-/
import Derived.Test.YthkbiiammhekfaaGreatDoorWpE
import Derived.Test.YthkbiiammhekfaaGreatDoorWlP
set_option linter.unusedSimpArgs false
set_option linter.unusedVariables false
namespace Go.Proofs.YthkbiiammhekfaaGreatDoor.Dm
open Go Gw
set_option linter.unusedSimpArgs false
set_option linter.unusedSimpArgs false
namespace Wl

theorem ahead_pos {l : List Wt} (ho : OrdL l) {x y : Wt} {i : Nat} (hy : l[i]? = some y) : ahead y x ↔ i < posF x l := by
 constructor
 ·intro h
  refine Classical.byContradiction fun hc => ?_
  have hp : posF x l < l.length := by have := lt_of_get hy; omega
  have h2 : posF x l = posF x l := rfl
  obtain ⟨z, hz⟩ : ∃ z, l[posF x l]? = some z := ⟨l[posF x l], by simp⟩
  have hzx : ahead z x := by
   rcases Nat.lt_or_eq_of_le (show posF x l ≤ i by omega) with hlt | heq
   ·exact ahead_trans (ho _ _ z y hlt hz hy) h
   ·rw [heq] at hz
    rw [hy] at hz
    cases hz
    exact h
  have hd := drop_posF x l
  have hh : (l.drop (posF x l)).head? = some z := by rw [List.head?_drop]; exact hz
  rw [hd] at hh
  have := List.head?_dropWhile_not (fun y => decide (ahead y x)) l
  rw [hh] at this
  simp at this
  exact this hzx
 ·intro h
  have ht := take_posF x l
  have hm : y ∈ l.take (posF x l) := List.mem_of_getElem? (i := i) (by rw [List.getElem?_take_of_lt h]; exact hy)
  rw [ht] at hm
  have := List.all_eq_true.1 (List.all_takeWhile (p := fun y => decide (ahead y x)) (l := l)) y hm
  simpa using this
section
variable {n : Nat} {S T V : List Ob} {st : Bool} {lab : Lab} {k p o : Nat} {l l' : List Wt} {s : Stk}
theorem RLi.new {d : D} (hf : FreshL S lab) (hk : lab k = [4]) (hkS : k < S.length) (hV : S.length ≤ V.length) (keep : ∀ x, x < S.length → V[x]? = S[x]?) (hG : GL 5 Wt.enc V d l') (hq : ∀ q n x, d = .os q 0 n x → S.length ≤ q) :
  ∃ lab', RLi (V.set k (.row 1 [[d]])) lab' k l' ∧ Step 4 S lab (V.set k (.row 1 [[d]])) lab' := by
 have hkV : k < V.length := by omega
 have hself : (V.set k (.row 1 [[d]]))[k]? = some (.row 1 [[d]]) := List.getElem?_set_self hkV
 rcases hG with ⟨rfl, rfl⟩ | ⟨q, rfl, e2⟩
 ·refine ⟨lab, ⟨_, hself, GL.nil, hk, fun q n x e => by cases e⟩, ⟨by simpa using hV, fun x hx => hf x (by simp at hx; omega), fun _ _ => rfl, fun x hx hl => ?_⟩⟩
  rw [List.getElem?_set_ne (by rintro rfl; exact hl (by rw [hk]; rfl))]
  exact keep x hx
 ·have hqS := hq _ _ _ rfl
  have hqV := lt_of_get e2
  refine ⟨setL lab q [4], ⟨_, hself, .inr ⟨q, rfl, by rw [List.getElem?_set_ne (by omega)]; exact e2⟩, by rw [setL_ne (by omega)]; exact hk, fun q' n x e => by cases e; exact setL_self⟩, ⟨by simpa using hV, fun x hx => ?_, fun x hx => setL_ne (by omega), fun x hx hl => ?_⟩⟩
  ·simp at hx
   rw [setL_ne (by omega)]
   exact hf x (by omega)
  ·rw [List.getElem?_set_ne (by rintro rfl; exact hl (by rw [hk]; rfl))]
   exact keep x hx
theorem src_head {q m : Nat} (hq : S[q]? = some (.row 5 (l.map Wt.enc))) (hm : m ≤ l.length) : srcOf S (4 + 1) (.os q 0 m false) = some ((l.take m).map Wt.enc) := by
 simp only [srcOf, hq]
 rw [if_pos ⟨trivial, by simp; omega⟩, List.drop_zero, List.map_take]
theorem src_tail {q m : Nat} (hq : S[q]? = some (.row 5 (l.map Wt.enc))) (hm : m ≤ l.length) : srcOf S (4 + 1) (.os q m (l.length - m) false) = some ((l.drop m).map Wt.enc) := by
 simp only [srcOf, hq]
 rw [if_pos ⟨trivial, by simp; omega⟩, List.map_drop, List.take_of_length_le (by simp)]
theorem unR : Tryz.prog.underlying 46 = some (.slice 40) := Tryz.underlying46
theorem slice_head {d : D} {m : Nat} (h : GL 5 Wt.enc S d l) (hm : m ≤ l.length) : ∃ x, dSlice Tryz.prog S 46 d none (some (.int .i64 m)) none = some x ∧ srcOf S (4 + 1) x = some ((l.take m).map Wt.enc) := by
 have hsz : sizeT Tryz.prog 40 = some 5 := szR
 have e1 : (0 : Int) ≤ m := by omega
 rcases h with ⟨rfl, rfl⟩ | ⟨q, rfl, hq⟩
 ·obtain rfl : m = 0 := by simpa using hm
  exact ⟨.nils, by unfold dSlice; rw [unR]; dsimp only; rw [hsz]; rfl, rfl⟩
 ·refine ⟨.os q 0 m false, ?_, src_head hq hm⟩
  unfold dSlice
  rw [unR]
  dsimp only
  rw [hq]
  dsimp only
  rw [if_pos hsz]
  have hb : dBounds l.length false none (some (.int .i64 (m : Int))) none = some (0, m, false && decide (m = l.length)) := by
   have h1 : 0 ≤ m ∧ m ≤ l.length := ⟨Nat.zero_le _, hm⟩
   simp only [dBounds, boundN, if_pos e1, Int.toNat_natCast, if_pos h1]
  rw [hb]
  dsimp only
  rw [if_neg (by omega), if_pos (by simp)]
  simp
theorem slice_tail {d : D} {m : Nat} (h : GL 5 Wt.enc S d l) (hm : m ≤ l.length) : ∃ x, dSlice Tryz.prog S 46 d (some (.int .i64 m)) none none = some x ∧ srcOf S (4 + 1) x = some ((l.drop m).map Wt.enc) := by
 have hsz : sizeT Tryz.prog 40 = some 5 := szR
 have e1 : (0 : Int) ≤ m := by omega
 rcases h with ⟨rfl, rfl⟩ | ⟨q, rfl, hq⟩
 ·obtain rfl : m = 0 := by simpa using hm
  exact ⟨.nils, by unfold dSlice; rw [unR]; dsimp only; rw [hsz]; rfl, rfl⟩
 ·have hb : dBounds l.length false (some (.int .i64 (m : Int))) none none = some (m, l.length, false && decide (l.length = l.length)) := by
   have h1 : m ≤ l.length ∧ l.length ≤ l.length := ⟨hm, Nat.le_refl _⟩
   simp only [dBounds, boundN, if_pos e1, Int.toNat_natCast, if_pos h1]
  by_cases hlast : l.length = m ∧ 0 < m
  ·refine ⟨.sl 5 [] false, ?_, ?_⟩
   ·unfold dSlice
    rw [unR]
    dsimp only
    rw [hq]
    dsimp only
    rw [if_pos hsz, hb]
    dsimp only
    rw [if_pos hlast]
    rfl
   ·rw [List.drop_eq_nil_of_le (by omega)]; rfl
  ·refine ⟨.os q m (l.length - m) false, ?_, src_tail hq hm⟩
   unfold dSlice
   rw [unR]
   dsimp only
   rw [hq]
   dsimp only
   rw [if_pos hsz, hb]
   dsimp only
   rw [if_neg hlast, if_pos (by simp), Nat.zero_add]
   rfl
set_option maxHeartbeats 16000000 in
set_option maxRecDepth 100000 in
theorem JoinR_d {x : Wt} (hn : l.length + 240 ≤ n) (hl : l.length ≤ 900) (hg : GoodW l) (h6 : x.legs.length ≤ 6) (hf : FreshL S lab) (h : RLi S lab k l) :
  WO (dcall E (n + 1) 34 [.loc k 0 0, .agg x.enc] S) fun r T => r = .int .i64 (joinF l x).1 ∧ ∃ lab', RLi T lab' k (joinF l x).2 ∧ Step 4 S lab T lab' := by
 have hR := h
 have hkS := h.lt
 obtain ⟨d, w1, w2, w3, w4⟩ := h
 have ctw := fun st S => Twice_c (n := n) (l := x.legs) (lx := x.legsx) (by omega) (by omega) st S
 obtain ⟨S1, hS1⟩ : ∃ S1, S1 = S ++ [Ob.row 5 [x.enc]] := ⟨_, rfl⟩
 have g0 : S1[S.length]? = some (.row 5 [x.enc]) := by rw [hS1]; exact get_end
 have g1 : S1[k]? = some (.row 1 [[d]]) := by rw [hS1]; exact get_psh w1 _
 have w2' : GL 5 Wt.enc S1 d l := by rw [hS1]; exact w2.push _
 have hlen1 : S1.length = S.length + 1 := by rw [hS1]; simp
 have st1 : Step 4 S lab S1 lab := by rw [hS1]; exact Step.push hf _
 have rl1 : RLi S1 lab k l := by rw [hS1]; exact hR.push _
 refine wo_dcall Tryz.func34 rfl (by decide) rfl 113 rfl (fun a hal ha => ?_)
 have h0 : a[0]? = some (.loc k 0 0) := ha 0 (by simp)
 have h1 : a[1]? = some (.agg x.enc) := ha 1 (by simp)
 clear ha
 simp only [Wt.enc] at h1
 refine wc_scut (fun a T => T = S1 ∧ a.length = 113 ∧ a[0]? = some (.loc k 0 0) ∧ a[3]? = some (.loc S.length 0 0)) ?_ ?_
 ·simp (maxSteps := 1000000) (disch := omega) only [push_cast, ↓wc_region, ↓wr_cons, ↓wr_nil, Nat.reduceAdd, Nat.reduceMul, Nat.reduceLT, Nat.reduceEqDiff, ↓reduceIte, Nat.reduceBEq, reduceCtorEq, hal, h0, h1]
  rw [hS1]; rfl
 clear hal h0 h1 a
 rintro a T ⟨rfl, hal, h0, h3⟩
 simp only [Wt.enc] at g0
 by_cases hv : validB x = false
 ·have hj : joinF l x = (2, l) := by unfold joinF; rw [if_pos hv]
  rw [hj]
  have hbad : ¬ (1 ≤ x.id ∧ x.legs ≠ [] ∧ 1 ≤ x.cnt ∧ x.cnt ≤ 99 ∧ x.legs.Nodup) := fun h => by rw [validB_iff.2 h] at hv; cases hv
  by_cases c1 : x.id < 1
  ·simp (maxSteps := 1000000) (disch := omega) only [push_cast, ↓wc_seq, ↓wc_condL, ↓wc_region, ↓wr_cons, ↓wr_consgL, ↓wr_nil, ↓wo_pickL, ↓wc_ret, Nat.reduceAdd, Nat.reduceMul, Nat.reduceLT, Nat.reduceEqDiff, ↓reduceIte, Nat.reduceBEq, hal, h3, g0, c1, Tryz.f34]
   exact ⟨lab, rl1, st1⟩
  by_cases c2 : x.legs = []
  ·simp (maxSteps := 1000000) (disch := omega) only [push_cast, ↓wc_seq, ↓wc_condL, ↓wc_region, ↓wr_cons, ↓wr_consgL, ↓wr_nil, ↓wo_pickL, ↓wc_ret, Nat.reduceAdd, Nat.reduceMul, Nat.reduceLT, Nat.reduceEqDiff, ↓reduceIte, Nat.reduceBEq, hal, h3, g0, c1, c2, List.map_nil, Int.natCast_zero, Tryz.f34]
   exact ⟨lab, rl1, st1⟩
  have c2' : ¬ ((x.legs.length : Int) = 0) := by
   have := List.length_pos_iff.2 c2
   omega
  by_cases c5 : x.legs.Nodup
  case neg =>
   rw [decide_eq_false c5] at ctw
   simp (maxSteps := 1000000) (disch := omega) only [push_cast, ↓wc_seq, ↓wc_condL, ↓wc_region, ↓wr_cons, ↓wr_consgL, ↓wr_nil, ↓wo_pickL, ↓wo_callf, ↓wc_ret, Nat.reduceAdd, Nat.reduceMul, Nat.reduceLT, Nat.reduceEqDiff, ↓reduceIte, Nat.reduceBEq, hal, h3, g0, c1, c2', ctw, Bool.not_false, Tryz.f34]
   exact ⟨lab, rl1, st1⟩
  rw [decide_eq_true c5] at ctw
  by_cases c3 : x.cnt < 1
  ·simp (maxSteps := 1000000) (disch := omega) only [push_cast, ↓wc_seq, ↓wc_condL, ↓wc_region, ↓wr_cons, ↓wr_consgL, ↓wr_nil, ↓wo_pickL, ↓wo_callf, ↓wc_ret, Nat.reduceAdd, Nat.reduceMul, Nat.reduceLT, Nat.reduceEqDiff, ↓reduceIte, Nat.reduceBEq, hal, h3, g0, c1, c2', c3, ctw, Bool.not_true, Tryz.f34]
   exact ⟨lab, rl1, st1⟩
  by_cases c4 : (99 : Int) < x.cnt
  ·simp (maxSteps := 1000000) (disch := omega) only [push_cast, ↓wc_seq, ↓wc_condL, ↓wc_region, ↓wr_cons, ↓wr_consgL, ↓wr_nil, ↓wo_pickL, ↓wo_callf, ↓wc_ret, Nat.reduceAdd, Nat.reduceMul, Nat.reduceLT, Nat.reduceEqDiff, ↓reduceIte, Nat.reduceBEq, gt_iff_lt, hal, h3, g0, c1, c2', c3, c4, ctw, Bool.not_true, Tryz.f34]
   exact ⟨lab, rl1, st1⟩
  exact (hbad ⟨by omega, c2, by omega, by omega, c5⟩).elim
 have hv : validB x = true := by simpa using hv
 obtain ⟨v1, v2, v3, v4, v5⟩ := validB_iff.1 hv
 have c1 : ¬ x.id < 1 := by omega
 have c2' : ¬ ((x.legs.length : Int) = 0) := by
  have := List.length_pos_iff.2 v2
  omega
 have c3 : ¬ x.cnt < 1 := by omega
 have c4 : ¬ (99 : Int) < x.cnt := by omega
 rw [decide_eq_true v5] at ctw
 simp (maxSteps := 1000000) (disch := omega) only [push_cast, ↓wc_seq, ↓wc_block, ↓wc_condL, ↓wc_region, ↓wr_cons, ↓wr_consgL, ↓wr_nil, ↓wo_pickL, ↓wo_callf, ↓wc_skip, ↓wc_wl, Nat.reduceAdd, Nat.reduceMul, Nat.reduceLT, Nat.reduceEqDiff, ↓reduceIte, Nat.reduceBEq, gt_iff_lt, hal, h3, g0, c1, c2', c3, c4, ctw, Bool.not_true]
 refine wl_loop (fun i a U => (U = T ∧ ∀ (j : Nat) z, j < i → l[j]? = some z → z.id ≠ x.id) ∧ a.length = 113 ∧ a[0]? = some (.loc k 0 0) ∧ a[3]? = some (.loc S.length 0 0) ∧ a[5]? = some (.int .i64 ((min i (posF x l) : Nat) : Int)) ∧ a[6]? = some (.int .i64 i)) l.length ?_ (by omega) ?_
 ·simp (maxSteps := 1000000) (disch := omega) only [push_cast, Nat.reduceLT, Nat.reduceEqDiff, ↓reduceIte, reduceCtorEq, ne_eq, hal, h0, h3, Int.natCast_zero, Nat.zero_min]
  exact fun j z hj => by omega
 clear hal h0 h3 a
 rintro i a U hi ⟨⟨rfl, hz⟩, hal, h0, h3, h5, h6⟩
 rcases Nat.lt_or_eq_of_le hi with hlt | rfl
 ·obtain ⟨y, hy⟩ : ∃ y, l[i]? = some y := ⟨l[i], by simp⟩
  obtain ⟨q, rfl, hq⟩ : ∃ q, d = .os q 0 l.length false ∧ U[q]? = some (.row 5 (l.map Wt.enc)) := by
   rcases w2' with ⟨-, e⟩ | h
   ·rw [e] at hlt; simp at hlt
   ·exact h
  have hap := ahead_pos (x := x) hg.ord hy
  by_cases hid : y.id = x.id
  ·have hj : joinF l x = (6, l) := by
    unfold joinF
    rw [if_neg (by simp [hv]), if_neg]
    intro hneg
    exact idxF_lt hneg y (List.mem_of_getElem? hy) hid
   rw [hj]
   simp (maxSteps := 1000000) (disch := omega) only [push_cast, ↓wc_seq, ↓wc_block, ↓wc_condL, ↓wc_region, ↓wr_cons, ↓wr_nil, ↓wc_ret, ↓wc_skip, Nat.reduceAdd, Nat.reduceMul, Nat.reduceLT, Nat.reduceEqDiff, ↓reduceIte, Nat.reduceBEq, reduceCtorEq, ne_eq, hal, h0, h3, h6, g0, g1, hq, hlt, hy, hid, Wt.enc, Tryz.f34]
   exact ⟨lab, rl1, st1⟩
  have hz' : ∀ (j : Nat) z, j < i + 1 → l[j]? = some z → z.id ≠ x.id := fun j z hj hzj => by
   rcases Nat.lt_or_eq_of_le (Nat.le_of_lt_succ hj) with hj | rfl
   ·exact hz j z hj hzj
   ·rw [hy] at hzj
    cases hzj
    exact hid
  by_cases ha : ahead y x
  ·have hpos := hap.1 ha
   have e1 : min (i + 1) (posF x l) = i + 1 := by omega
   have fin : ((i + 1 : Nat) : Int) = (i : Int) + 1 := by omega
   by_cases b1 : x.rk < y.rk
   ·simp (maxSteps := 1000000) (disch := omega) only [push_cast, ↓wc_seq, ↓wc_block, ↓wc_condL, ↓wc_region, ↓wr_cons, ↓wr_consgL, ↓wr_nil, ↓wo_pickL, ↓wc_skip, Nat.reduceAdd, Nat.reduceMul, Nat.reduceLT, Nat.reduceEqDiff, ↓reduceIte, Nat.reduceBEq, reduceCtorEq, gt_iff_lt, ne_eq, hal, h0, h3, h6, g0, g1, hq, hlt, hy, hid, b1, e1, Wt.enc, wrap_ok, Int.natCast_add, Int.natCast_one]
    exact hz'
   ·have hh : y.rk = x.rk ∧ y.id < x.id := by unfold ahead at ha; omega
    simp (maxSteps := 1000000) (disch := omega) only [push_cast, ↓wc_seq, ↓wc_block, ↓wc_condL, ↓wc_region, ↓wr_cons, ↓wr_consgL, ↓wr_nil, ↓wo_pickL, ↓wc_skip, Nat.reduceAdd, Nat.reduceMul, Nat.reduceLT, Nat.reduceEqDiff, ↓reduceIte, Nat.reduceBEq, reduceCtorEq, gt_iff_lt, ne_eq, hal, h0, h3, h6, g0, g1, hq, hlt, hy, hid, hh.1, hh.2, Int.lt_irrefl, e1, Wt.enc, wrap_ok, Int.natCast_add, Int.natCast_one]
    exact hz'
  ·have hpos : ¬ i < posF x l := fun h => ha (hap.2 h)
   have e1 : min (i + 1) (posF x l) = min i (posF x l) := by omega
   have b1 : ¬ x.rk < y.rk := fun h => ha (.inl h)
   by_cases b2 : y.rk = x.rk
   ·have b3 : ¬ y.id < x.id := fun h => ha (.inr ⟨b2, h⟩)
    simp (maxSteps := 1000000) (disch := omega) only [push_cast, ↓wc_seq, ↓wc_block, ↓wc_condL, ↓wc_region, ↓wr_cons, ↓wr_consgL, ↓wr_nil, ↓wo_pickL, ↓wc_skip, Nat.reduceAdd, Nat.reduceMul, Nat.reduceLT, Nat.reduceEqDiff, ↓reduceIte, Nat.reduceBEq, reduceCtorEq, gt_iff_lt, ne_eq, hal, h0, h3, h5, h6, g0, g1, hq, hlt, hy, hid, b2, b3, Int.lt_irrefl, e1, Wt.enc, wrap_ok, Int.natCast_add, Int.natCast_one]
    exact hz'
   ·simp (maxSteps := 1000000) (disch := omega) only [push_cast, ↓wc_seq, ↓wc_block, ↓wc_condL, ↓wc_region, ↓wr_cons, ↓wr_consgL, ↓wr_nil, ↓wo_pickL, ↓wc_skip, Nat.reduceAdd, Nat.reduceMul, Nat.reduceLT, Nat.reduceEqDiff, ↓reduceIte, Nat.reduceBEq, reduceCtorEq, gt_iff_lt, ne_eq, hal, h0, h3, h5, h6, g0, g1, hq, hlt, hy, hid, b1, b2, e1, Wt.enc, wrap_ok, Int.natCast_add, Int.natCast_one]
    exact hz'
 have hidx : idxF x.id l < 0 := Classical.byContradiction fun hc => by
  obtain ⟨i, y, e1, e2, e3⟩ := idxF_ge hc
  exact hz i y (lt_of_get e2) e2 e3
 have hj : joinF l x = (0, insL x l) := by unfold joinF; rw [if_neg (by simp [hv]), if_pos hidx]
 rw [hj]
 have hple := posF_le x l
 rw [Nat.min_eq_right hple] at h5
 generalize hp : posF x l = p at *
 refine wc_mono (Q := fun r a V => r = DX.exit 0 ∧ V = U ∧ a.length = 113 ∧ a[0]? = some (.loc k 0 0) ∧ a[3]? = some (.loc S.length 0 0) ∧ a[5]? = some (.int .i64 p)) ?_ ?_
 ·rcases w2' with ⟨rfl, rfl⟩ | ⟨q, rfl, hq⟩
  ·simp (maxSteps := 1000000) (disch := omega) only [push_cast, ↓wc_seq, ↓wc_condL, ↓wc_region, ↓wr_cons, ↓wr_nil, ↓wc_exit, Nat.reduceAdd, Nat.reduceMul, Nat.reduceLT, Nat.reduceEqDiff, ↓reduceIte, Nat.reduceBEq, reduceCtorEq, hal, h0, h3, h5, h6, g1, Int.natCast_zero, Int.lt_irrefl]
  ·simp (maxSteps := 1000000) (disch := omega) only [push_cast, ↓wc_seq, ↓wc_condL, ↓wc_region, ↓wr_cons, ↓wr_nil, ↓wc_exit, Nat.reduceAdd, Nat.reduceMul, Nat.reduceLT, Nat.reduceEqDiff, ↓reduceIte, Nat.reduceBEq, reduceCtorEq, hal, h0, h3, h5, h6, g1, Int.lt_irrefl]
 clear hal h0 h3 h5 h6 a
 rintro r a V ⟨rfl, rfl, hal, h0, h3, h5⟩
 simp only [iterQ_exit, blockQ_exit, seqQ_normal, ↓reduceIte]
 refine wc_scut (fun a U => U = V ∧ a.length = 113 ∧ a[0]? = some (.loc k 0 0) ∧ a[3]? = some (.loc S.length 0 0) ∧ a[5]? = some (.int .i64 p) ∧ a[7]? = some (.nils)) ?_ ?_
 ·simp (maxSteps := 1000000) (disch := omega) only [push_cast, ↓wc_region, ↓wr_cons, ↓wr_nil, Nat.reduceAdd, Nat.reduceMul, Nat.reduceLT, Nat.reduceEqDiff, ↓reduceIte, Nat.reduceBEq, reduceCtorEq, hal, h0, h3, h5]
 clear hal h0 h3 h5 a
 rintro a U ⟨rfl, hal, h0, h3, h5, h7⟩
 obtain ⟨s0, hs0, hs1⟩ := slice_head w2' hple
 obtain ⟨d1, V1, ca1, G1, len1, k1, n1⟩ := app_gs (S := U) (d := .nils) (l := []) (g := l.take p) elR szR zeR rfl byR GL.nil hs1 (by simp; omega)
 rw [List.nil_append] at G1
 have keep1 : ∀ (x : Nat) ob, U[x]? = some ob → V1[x]? = some ob := fun x ob h => k1 x ob (fun n e => by cases e) h
 have q1 : ∀ q m y, d1 = .os q 0 m y → U.length ≤ q := fun q m y e => (n1 q m y e).resolve_right (fun h => by rw [h] at e; cases e)
 obtain ⟨d2, V2, ca2, G2, len2, k2, n2⟩ := app_gs (S := V1) (d := d1) (l := l.take p) (g := [x]) elR szR zeR rfl byR G1 (x := .sl 5 [x.enc] true) rfl (by simp; omega)
 have keep2 : ∀ (x : Nat) ob, U[x]? = some ob → V2[x]? = some ob := fun x ob h => k2 x ob (fun n e => by have := q1 _ _ _ e; have := lt_of_get h; omega) (keep1 x ob h)
 have q2 : ∀ q m y, d2 = .os q 0 m y → U.length ≤ q := fun q m y e => by
  rcases n2 q m y e with h | h
  ·omega
  ·rw [h] at e; exact q1 _ _ _ e
 have w2V : GL 5 Wt.enc V2 d l := by
  rcases w2' with h | ⟨q, e1, e2⟩
  ·exact .inl h
  ·exact .inr ⟨q, e1, keep2 _ _ e2⟩
 obtain ⟨t0, ht0, ht1⟩ := slice_tail w2V hple
 obtain ⟨d3, V3, ca3, G3, len3, k3, n3⟩ := app_gs (S := V2) (d := d2) (l := l.take p ++ [x]) (g := l.drop p) elR szR zeR rfl byR G2 ht1 (by simp; omega)
 have keep3 : ∀ (x : Nat) ob, U[x]? = some ob → V3[x]? = some ob := fun x ob h => k3 x ob (fun n e => by have := q2 _ _ _ e; have := lt_of_get h; omega) (keep2 x ob h)
 have q3 : ∀ q m y, d3 = .os q 0 m y → U.length ≤ q := fun q m y e => by
  rcases n3 q m y e with h | h
  ·omega
  ·rw [h] at e; exact q2 _ _ _ e
 have gk1 := keep1 _ _ g1
 have gk2 := keep2 _ _ g1
 have gk3 := keep3 _ _ g1
 have gx1 := keep1 _ _ g0
 simp only [Wt.enc] at ca2
 simp (maxSteps := 1000000) (disch := omega) only [push_cast, ↓reduceIte] at hs0
 simp (maxSteps := 1000000) (disch := omega) only [push_cast, Nat.reduceLeDiff, ↓reduceIte] at ht0
 refine wc_scut (fun a V => V = V2 ∧ a.length = 113 ∧ a[0]? = some (.loc k 0 0) ∧ a[5]? = some (.int .i64 p) ∧ a[7]? = some (d2)) ?_ ?_
 ·rw [wc_plan (p := steps [0, 1, 2, 3, 4, 5, 6] (.both (steps [7, 8, 9, 10, 11] .done) (steps [8, 7, 9, 10, 11] .done))) rfl]
  rw [wp_pick rfl]
  simp only [opsOf, List.filterMap_cons, List.filterMap_nil, List.getElem?_toArray, List.getElem?_cons_zero, List.getElem?_cons_succ]
  simp (maxSteps := 1000000) (disch := omega) only [push_cast, ↓wr_cons, ↓wr_nil, Nat.reduceLT, Nat.reduceEqDiff, ↓reduceIte, reduceCtorEq, hal, h0, h5, h7, g1, hs0]
  apply wp_both
  ·rw [wp_pick rfl]
   simp only [opsOf, List.filterMap_cons, List.filterMap_nil, List.getElem?_toArray, List.getElem?_cons_zero, List.getElem?_cons_succ]
   simp (maxSteps := 1000000) (disch := omega) only [push_cast, ↓wr_cons, ↓wr_nil, Nat.reduceAdd, Nat.reduceMul, Nat.reducePow, Nat.reduceLT, Nat.reduceLeDiff, Nat.reduceEqDiff, ↓wo_buildSlice, ↓reduceIte, hal, h3, gx1, ca1, ca2, wp_done, ↓set_sorti, id_eq]
   exact ⟨rfl, rfl⟩
  ·rw [wp_pick rfl]
   simp only [opsOf, List.filterMap_cons, List.filterMap_nil, List.getElem?_toArray, List.getElem?_cons_zero, List.getElem?_cons_succ]
   simp (maxSteps := 1000000) (disch := omega) only [push_cast, ↓wr_cons, ↓wr_nil, Nat.reduceAdd, Nat.reduceMul, Nat.reducePow, Nat.reduceLT, Nat.reduceLeDiff, Nat.reduceEqDiff, ↓wo_buildSlice, ↓reduceIte, hal, h3, g0, ca1, ca2, wp_done, ↓set_sorti, id_eq]
  ·simp (maxSteps := 1000000) (disch := omega) only [push_cast, Nat.reduceLT, Nat.reduceEqDiff, ↓reduceIte, reduceCtorEq, hal, h0, h5]
 clear hal h0 h3 h5 h7 a
 rintro a V ⟨rfl, hal, h0, h5, h7⟩
 obtain ⟨lab', r1, r2⟩ := RLi.new (S := S) (V := V3) (l' := insL x l) (d := d3) hf w3 hkS (by omega) (fun y hy => by
  have e : U[y]? = S[y]? := by rw [hS1, List.getElem?_append_left hy]
  rw [← e]
  exact keep3 y _ (by rw [e]; exact List.getElem?_eq_getElem hy) |>.trans (by rw [e]; exact (List.getElem?_eq_getElem hy).symm)) (by
   have : insL x l = l.take p ++ [x] ++ l.drop p := by unfold insL; rw [hp]
   rw [this]; exact G3) (fun q m y e => by have := q3 q m y e; omega)
 rcases G3 with ⟨rfl, -⟩ | ⟨qq, rfl, -⟩
 ·simp (maxSteps := 1000000) (disch := omega) only [push_cast, ↓wc_seq, ↓wc_region, ↓wr_cons, ↓wr_nil, ↓wc_ret, Nat.reduceAdd, Nat.reduceMul, Nat.reduceLT, Nat.reduceLeDiff, Nat.reduceEqDiff, ↓reduceIte, Nat.reduceBEq, reduceCtorEq, hal, h0, h5, h7, gk2, gk3, ht0, ca3, Tryz.f34]
  exact ⟨lab', r1, r2⟩
 ·simp (maxSteps := 1000000) (disch := omega) only [push_cast, ↓wc_seq, ↓wc_region, ↓wr_cons, ↓wr_nil, ↓wc_ret, Nat.reduceAdd, Nat.reduceMul, Nat.reduceLT, Nat.reduceLeDiff, Nat.reduceEqDiff, ↓reduceIte, Nat.reduceBEq, reduceCtorEq, hal, h0, h5, h7, gk2, gk3, ht0, ca3, Tryz.f34]
  exact ⟨lab', r1, r2⟩
theorem JoinR {x : Wt} (hn : l.length + 241 ≤ n) (hl : l.length ≤ 900) (hg : GoodW l) (h6 : x.legs.length ≤ 6) (hf : FreshL S lab) (h : RLi S lab k l) :
  ∃ T lab', (∀ st, callD E (dcall E n) st S 34 [.loc k 0 0, .agg x.enc] = some (.int .i64 (joinF l x).1, T)) ∧ RLi T lab' k (joinF l x).2 ∧ Step 4 S lab T lab' := by
 obtain ⟨m, rfl⟩ : ∃ m, n = m + 1 := ⟨n - 1, by omega⟩
 obtain ⟨_, T, ho, rfl, lab', h1, h2⟩ := JoinR_d (n := m) (by omega) hl hg h6 hf h
 exact ⟨T, lab', fun st => (callD_genw rfl).trans ho, h1, h2⟩
end
end Wl
end Go.Proofs.YthkbiiammhekfaaGreatDoor.Dm
