/-
  The machine at slices.SortFunc: rows as arrays, elements that are compared, insertion sort and reversal.
  The machine at slices.SortFunc: heap sort and reversal.
  The machine at slices.SortFunc: the partitions.
  The machine at slices.SortFunc: partial insertion sort.
  The machine at slices.SortFunc: the pivot, the patterns that are broken.
-/
import Derived.Test.YtgomkmamgflbeaaDoorGw
import Derived.Test.YtgomkmamgflbeaaDoorWs
import Derived.Test.YtgomkmamgflbeaaDoorTxE
import Derived.Sort.AssemblyPlain
namespace Go.Proofs.YtgomkmamgflbeaaDoor.Dm
open Go Gw
set_option linter.unusedSimpArgs false

namespace Srt
variable {α : Type} {S0 T : List Ob} {k : Nat} {val : α → D} {d : Array α} {cf : D} {c : α → α → Int}
def rowS (val : α → D) (d : Array α) : List (List D) := d.toList.map fun x => [val x]
/-- A store whose row k holds the array; all else lies there still. -/
structure R (S0 : List Ob) (k : Nat) (val : α → D) (d : Array α) (T : List Ob) : Prop where
  row : T[k]? = some (.row 1 (rowS val d))
  old : ∀ j o, j ≠ k → S0[j]? = some o → T[j]? = some o
  len : S0.length ≤ T.length
def lt (c : α → α → Int) (x y : α) : Bool := decide (c x y < 0)
/-- The comparison, at data of such a store. -/
def CmpOk (n0 : Nat) (S0 : List Ob) (k : Nat) (val : α → D) (cf : D) (c : α → α → Int) : Prop :=
  ∀ n, n0 ≤ n → ∀ (d : Array α) T, R S0 k val d T → ∀ st x y, callV E (dcall E n) st T cf [val x, val y] = some (.int .i64 (c x y), T)
theorem row_set {i : Nat} {y : α} : (rowS val d).set i [val y] = rowS val (d.setIfInBounds i y) := by
  unfold rowS
  rw [Array.toList_setIfInBounds, List.map_set]
theorem R.put (h : R S0 k val d T) {d' : Array α} : R S0 k val d' (T.set k (.row 1 (rowS val d'))) where
  row := by rw [List.getElem?_set_self ((List.getElem?_eq_some_iff.1 h.row).1)]
  old := fun j o hj ho => by rw [List.getElem?_set_ne (Ne.symm hj)]; exact h.old j o hj ho
  len := by rw [List.length_set]; exact h.len
theorem R.push (h : R S0 k val d T) (o : Ob) : R S0 k val d (T ++ [o]) where
  row := get_old h.row
  old := fun j o hj ho => get_old (h.old j o hj ho)
  len := by rw [List.length_append]; exact Nat.le_trans h.len (Nat.le_add_right _ _)
theorem R.lt (h : R S0 k val d T) : k < T.length := (List.getElem?_eq_some_iff.1 h.row).1
theorem sz_el : sizeT Tryd.prog 54 = some 1 := by kernel_rfl
theorem cells_one {x : D} (h : x.one = true) : x.cells = [x] := by
  cases x <;> first | rfl | cases h
theorem pure_own {kk n : Nat} {x : Bool} {l : List D} : pureL (.os kk 0 n x :: l) = false := by simp [pureL_cons, D.pure]
variable [Inhabited α]
theorem bang {i : Nat} (hi : i < d.size) : d[i]? = some d[i]! := by simp [hi]
theorem row_at {i : Nat} (hi : i < d.size) : (rowS val d)[i]? = some [val d[i]!] := by
  unfold rowS
  rw [List.getElem?_map, Array.getElem?_toList, bang hi]; rfl
theorem wc_asc {E : Env} {call : Call} {n : Nat} {x y z : Code} {a : List D} {S : List Ob} {Q : PostX} : WC (codeD E call n (.seq x (.seq y z)) a S) Q = WC (codeD E call n (.seq (.seq x y) z) a S) Q := by
  rw [wc_seq, wc_seq, wc_seq]
  congr 1
  funext r b U
  cases r
  · simp only [seqQ, wc_seq]
  · rfl
  · rfl
theorem swp_size {i j : Nat} : (Sort.swp d i j).size = d.size := by simp [Sort.swp]
set_option maxHeartbeats 4000000 in
set_option maxRecDepth 100000 in
theorem ins_d {n n0 lo hi : Nat} {x : Bool} (hv : ∀ x, (val x).one = true) (hC : CmpOk n0 S0 k val cf c) (hn : n0 + d.size + 2 ≤ n) (hab : lo ≤ hi) (hb : hi ≤ d.size) (hz : d.size ≤ 100000) (h : R S0 k val d T) :
    WO (dcall E (n + 1) 78 [.os k 0 d.size x, .int .i64 lo, .int .i64 hi, cf] T) fun _ T' => R S0 k val (Sort.insertionSort (lt c) d lo hi) T' := by
  refine wo_dcall Tryd.func78 rfl (by decide) rfl 53 rfl (fun a hal ha => ?_)
  have h0 : a[0]? = some (.os k 0 d.size x) := ha 0 (by simp)
  have h1 : a[1]? = some (.int .i64 lo) := ha 1 (by simp)
  have h2 : a[2]? = some (.int .i64 hi) := ha 2 (by simp)
  have h3 : a[3]? = some (cf) := ha 3 (by simp)
  clear ha
  simp (maxSteps := 1000000) (disch := omega) only [push_cast, ↓wc_seq, ↓wc_block, ↓wc_region, ↓wr_cons, ↓wr_nil, ↓wc_wl, wo_some, opQ_eq, seqQ_normal, Nat.reduceAdd, Nat.reduceMul, Nat.reduceLT, ↓reduceIte, planIds, List.contains_cons, List.contains_nil, Nat.reduceBEq, setC, List.length_set, eq_self, Nat.zero_add, planIds, List.contains_cons, List.contains_nil, Nat.reduceBEq, Nat.reduceMul, Nat.reduceAdd, ↓reduceIte, hal, h1, wrap_ok]
  refine wl_loop (fun i a T' => ∃ (d' : Array α) (m : Nat), a.length = 53 ∧ a[0]? = some (.os k 0 d.size x) ∧ a[1]? = some (.int .i64 lo) ∧ a[2]? = some (.int .i64 hi) ∧ a[3]? = some (cf) ∧ a[8]? = some (.int .i64 m) ∧ m = lo + 1 + i ∧ d'.size = d.size ∧ R S0 k val d' T' ∧ Sort.insertionSort (lt c) d lo hi = Sort.insOuter (lt c) lo hi m d') d.size ?_ (by omega) ?_
  · refine ⟨d, lo + 1, ?_⟩
    simp (maxSteps := 1000000) (disch := omega) only [push_cast, Nat.reduceLT, Nat.reduceEqDiff, ↓reduceIte, setC, List.length_set, reduceCtorEq, eq_self, Nat.add_zero, ↓reduceIte, hal, h0, h1, h2, h3, Int.natCast_add, Int.natCast_one]
    exact ⟨h, rfl⟩
  clear hal h0 h1 h2 h3 a
  rintro i a T' hi' ⟨d', m, hal, h0, h1, h2, h3, h8, hm, hs, hr, hv'⟩
  by_cases g : m < hi
  case neg =>
    rw [Sort.insOuter, if_neg g] at hv'
    simp (maxSteps := 1000000) (disch := omega) only [push_cast, ↓wc_seq, ↓wc_condL, ↓wc_region, ↓wr_cons, ↓wr_nil, ↓wc_exit, wo_some, opQ_eq, seqQ_normal, seqQ_exit, blockQ_exit, iterQ_exit, retQ_normal, pickC_false, Nat.reduceAdd, Nat.reduceMul, Nat.reduceLT, Nat.reduceEqDiff, ↓reduceIte, planIds, List.contains_cons, List.contains_nil, Nat.reduceBEq, setC, List.length_set, eq_self, Int.ofNat_lt, Nat.zero_add, planIds, List.contains_cons, List.contains_nil, Nat.reduceBEq, Nat.reduceMul, Nat.reduceAdd, ↓reduceIte, hal, h2, h8, g, Tryd.f78]
    rw [hv']; exact hr
  rw [Sort.insOuter, if_pos g] at hv'
  simp (maxSteps := 1000000) (disch := omega) only [push_cast, ↓wc_seq, ↓wc_block, ↓wc_condL, ↓wc_region, ↓wr_cons, ↓wr_nil, ↓wc_skip, ↓wc_wl, wo_some, opQ_eq, seqQ_normal, pickC_true, Nat.reduceAdd, Nat.reduceMul, Nat.reduceLT, Nat.reduceEqDiff, ↓reduceIte, planIds, List.contains_cons, List.contains_nil, Nat.reduceBEq, setC, List.length_set, eq_self, Int.ofNat_lt, Nat.zero_add, planIds, List.contains_cons, List.contains_nil, Nat.reduceBEq, Nat.reduceMul, Nat.reduceAdd, ↓reduceIte, hal, h2, h8, g, wc_wl]
  refine wl_loop (fun i' a T' => ∃ (d'' : Array α) (j : Nat), a.length = 53 ∧ a[0]? = some (.os k 0 d.size x) ∧ a[1]? = some (.int .i64 lo) ∧ a[2]? = some (.int .i64 hi) ∧ a[3]? = some (cf) ∧ a[8]? = some (.int .i64 m) ∧ a[9]? = some (.int .i64 j) ∧ j + i' = m ∧ d''.size = d.size ∧ R S0 k val d'' T' ∧ Sort.insInner (lt c) lo m d' = Sort.insInner (lt c) lo j d'') m ?_ (by omega) ?_
  · refine ⟨d', m, ?_⟩
    simp (maxSteps := 1000000) (disch := omega) only [push_cast, Nat.reduceLT, Nat.reduceEqDiff, ↓reduceIte, setC, List.length_set, reduceCtorEq, eq_self, Nat.add_zero, ↓reduceIte, hal, h0, h1, h2, h3, h8]
    exact ⟨hs, hr⟩
  clear hal h0 h1 h2 h3 h8 a
  clear hr
  rintro i' a T' hi'' ⟨d'', j, hal, h0, h1, h2, h3, h8, h9, hj, hs', hr, hq⟩
  have done : ∀ e, Sort.insInner (lt c) lo j d'' = d'' → e = m + 1 → e = lo + 1 + (i + 1) ∧ d''.size = d.size ∧ R S0 k val d'' T' ∧ Sort.insertionSort (lt c) d lo hi = Sort.insOuter (lt c) lo hi e d'' := fun e he h1 => by
    subst h1
    rw [hq, he] at hv'
    exact ⟨by omega, hs', hr, hv'⟩
  by_cases g1 : lo < j
  case neg =>
    have he : Sort.insInner (lt c) lo j d'' = d'' := by
      cases j with
      | zero => rfl
      | succ j => rw [Sort.insInner, if_neg (by simp; intro; omega)]
    simp (maxSteps := 1000000) (disch := omega) only [push_cast, ↓wc_seq, ↓wc_condL, ↓wc_region, ↓wr_cons, ↓wr_consgL, ↓wr_nil, ↓wo_pickL, ↓wc_exit, wo_some, opQ_eq, seqQ_normal, seqQ_exit, blockQ_normal, blockQ_exit, iterQ_normal, iterQ_exit, pickC_false, pickO_false, gstep_ft, Nat.reduceAdd, Nat.reduceMul, Nat.reduceLT, Nat.reduceEqDiff, ↓reduceIte, planIds, List.contains_cons, List.contains_nil, Nat.reduceBEq, setC, List.length_set, reduceCtorEq, eq_self, Int.ofNat_lt, D.int.injEq, Option.some.injEq, Nat.zero_add, gt_iff_lt, planIds, List.contains_cons, List.contains_nil, Nat.reduceBEq, Nat.reduceMul, Nat.reduceAdd, ↓reduceIte, hal, h0, h1, h2, h3, h8, h9, g1, gt_iff_lt, wrap_ok]
    refine ⟨by omega, d'', m + 1, ?_, ?_⟩
    · simp only [Int.natCast_add, Int.natCast_one]
    · exact done _ he rfl
  obtain ⟨j', hj'⟩ : ∃ j', j = j' + 1 := ⟨j - 1, by omega⟩
  have hw : IntKind.i64.wrap ((j : Int) - 1) = (j' : Int) := by rw [wrap_ok (by omega) (by omega)]; omega
  have hjl : j < d.size := by omega
  have hjl' : j' < d.size := by omega
  have l1 := row_at (val := val) (d := d'') (i := j) (by omega)
  have l2 := row_at (val := val) (d := d'') (i := j') (by omega)
  have l3 := row_at (val := val) (d := d''.setIfInBounds j d''[j']!) (i := j') (by simp; omega)
  have cc := fun st => hC n (by omega) d'' T' hr st d''[j]! d''[j']!
  by_cases e1 : c d''[j]! d''[j']! < 0
  case neg =>
    have he : Sort.insInner (lt c) lo j d'' = d'' := by
      subst hj'
      rw [Sort.insInner, if_neg (by simp [lt]; intro; omega)]
    simp (maxSteps := 1000000) (disch := omega) only [push_cast, ↓wc_seq, ↓wc_condL, ↓wc_region, ↓wr_cons, ↓wr_consgL, ↓wr_nil, ↓wo_pickL, ↓wc_exit, wo_some, opQ_eq, seqQ_normal, seqQ_exit, blockQ_normal, blockQ_exit, iterQ_normal, iterQ_exit, pickC_false, pickO_true, gstep_tt, Nat.reduceAdd, Nat.reduceMul, Nat.reduceLT, Nat.reduceEqDiff, ↓reduceIte, planIds, List.contains_cons, List.contains_nil, Nat.reduceBEq, setC, List.length_set, reduceCtorEq, eq_self, Int.natCast_nonneg, Int.toNat_natCast, Int.ofNat_lt, D.int.injEq, Option.some.injEq, Nat.zero_add, gt_iff_lt, planIds, List.contains_cons, List.contains_nil, Nat.reduceBEq, Nat.reduceMul, Nat.reduceAdd, ↓reduceIte, hal, h0, h1, h2, h3, h8, h9, g1, gt_iff_lt, wrap_ok, hr.row, sz_el, hw, hjl, hjl', l1, l2, ↓wo_callv, cc, e1]
    refine ⟨by omega, d'', m + 1, ?_, ?_⟩
    · simp only [Int.natCast_add, Int.natCast_one]
    · exact done _ he rfl
  have he : Sort.insInner (lt c) lo j d'' = Sort.insInner (lt c) lo j' (Sort.swp d'' j j') := by
    subst hj'
    rw [Sort.insInner, if_pos (by simp [lt]; omega)]
  have hkl := hr.lt
  have cv : ∀ y, (val y).cells = [val y] := fun y => cells_one (hv y)
  simp only [D.cells] at cv
  have ov := hv
  simp only [D.one] at ov
  simp (maxSteps := 1000000) (disch := omega) only [push_cast, ↓wc_seq, ↓wc_block, ↓wc_condL, ↓wc_region, ↓wr_cons, ↓wr_consgL, ↓wr_nil, ↓wo_pickL, ↓wc_skip, wo_some, opQ_eq, seqQ_normal, blockQ_normal, iterQ_normal, pickC_true, pickO_true, gstep_tt, Nat.reduceAdd, Nat.reduceMul, Nat.reduceLT, Nat.reduceLeDiff, Nat.reduceEqDiff, ↓reduceIte, planIds, List.contains_cons, List.contains_nil, Nat.reduceBEq, setC, List.length_set, reduceCtorEq, eq_self, Int.natCast_nonneg, Int.toNat_natCast, Int.ofNat_lt, D.int.injEq, Option.some.injEq, Nat.zero_add, gt_iff_lt, planIds, List.contains_cons, List.contains_nil, Nat.reduceBEq, Nat.reduceMul, Nat.reduceAdd, ↓reduceIte, hal, h0, h1, h2, h3, h8, h9, g1, gt_iff_lt, hr.row, sz_el, hw, hjl, hjl', l1, l2, ↓wo_callv, cc, e1, l3, hkl, cv, ov, row_set, List.set_set]
  exact ⟨by omega, Sort.swp d'' j j', j', rfl, by omega, by rw [swp_size]; exact hs', hr.put, by rw [hq, he]⟩
end Srt

namespace Srt
variable {α : Type} {S0 T : List Ob} {k : Nat} {val : α → D} {d : Array α} {cf : D} {c : α → α → Int}
variable [Inhabited α]
set_option maxHeartbeats 4000000 in
set_option maxRecDepth 100000 in
theorem sift_d {n n0 lo hi first : Nat} {x : Bool} (hv : ∀ x, (val x).one = true) (hC : CmpOk n0 S0 k val cf c) (hn : n0 + d.size + 2 ≤ n) (hb : first + hi ≤ d.size) (hz : d.size ≤ 100000) (hlo : lo ≤ 100000) (h : R S0 k val d T) :
    WO (dcall E (n + 1) 92 [.os k 0 d.size x, .int .i64 lo, .int .i64 hi, .int .i64 first, cf] T) fun _ T' => R S0 k val (Sort.siftDown (lt c) hi first lo d) T' ∧ (Sort.siftDown (lt c) hi first lo d).size = d.size := by
  refine wo_dcall Tryd.func92 rfl (by decide) rfl 82 rfl (fun a hal ha => ?_)
  have h0 : a[0]? = some (.os k 0 d.size x) := ha 0 (by simp)
  have h1 : a[1]? = some (.int .i64 lo) := ha 1 (by simp)
  have h2 : a[2]? = some (.int .i64 hi) := ha 2 (by simp)
  have h3 : a[3]? = some (.int .i64 first) := ha 3 (by simp)
  have h4 : a[4]? = some (cf) := ha 4 (by simp)
  clear ha
  simp (maxSteps := 1000000) (disch := omega) only [push_cast, ↓wc_seq, ↓wc_block, ↓wc_region, ↓wr_cons, ↓wr_nil, ↓wc_wl, wo_some, opQ_eq, seqQ_normal, Nat.reduceAdd, Nat.reduceMul, Nat.reduceLT, ↓reduceIte, planIds, List.contains_cons, List.contains_nil, Nat.reduceBEq, setC, eq_self, Nat.zero_add, planIds, List.contains_cons, List.contains_nil, Nat.reduceBEq, Nat.reduceMul, Nat.reduceAdd, ↓reduceIte, hal, h1]
  refine wl_loop (fun i a T' => ∃ (d' : Array α) (rt : Nat), a.length = 82 ∧ a[0]? = some (.os k 0 d.size x) ∧ a[2]? = some (.int .i64 hi) ∧ a[3]? = some (.int .i64 first) ∧ a[4]? = some (cf) ∧ a[10]? = some (.int .i64 rt) ∧ (i ≤ rt ∧ (i = 0 ∨ rt < hi) ∧ rt ≤ 100000) ∧ d'.size = d.size ∧ R S0 k val d' T' ∧ Sort.siftDown (lt c) hi first lo d = Sort.siftDown (lt c) hi first rt d') d.size ?_ (by omega) ?_
  · refine ⟨d, lo, ?_⟩
    simp (maxSteps := 1000000) (disch := omega) only [push_cast, Nat.reduceLT, Nat.reduceEqDiff, ↓reduceIte, setC, List.length_set, reduceCtorEq, eq_self, ↓reduceIte, hal, h0, h2, h3, h4]
    exact ⟨⟨Nat.zero_le _, .inl trivial, hlo⟩, h⟩
  clear hal h0 h1 h2 h3 h4 a
  clear h
  rintro i a T' hi' ⟨d', rt, hal, h0, h2, h3, h4, h10, ⟨hir, hrh, hrt⟩, hs, hr, hq⟩
  have stop : Sort.siftDown (lt c) hi first rt d' = d' → R S0 k val (Sort.siftDown (lt c) hi first lo d) T' ∧ (Sort.siftDown (lt c) hi first lo d).size = d.size := fun e => by
    rw [hq, e]; exact ⟨hr, hs⟩
  rw [wc_block]
  obtain ⟨ch, hch⟩ : ∃ ch, ch = 2 * rt + 1 := ⟨_, rfl⟩
  have w1 : IntKind.i64.wrap (IntKind.i64.wrap (2 * (rt : Int)) + 1) = (ch : Int) := by rw [wrap_ok (x := 2 * (rt : Int)) (by omega) (by omega), wrap_ok (by omega) (by omega)]; omega
  by_cases g : hi ≤ ch
  · have e : Sort.siftDown (lt c) hi first rt d' = d' := by rw [Sort.siftDown, dif_pos (by omega)]
    simp (maxSteps := 1000000) (disch := omega) only [push_cast, ↓wc_seq, ↓wc_condL, ↓wc_region, ↓wr_cons, ↓wr_nil, ↓wc_exit, wo_some, opQ_eq, seqQ_normal, seqQ_exit, blockQ_exit, iterQ_exit, retQ_normal, pickC_true, Nat.reduceAdd, Nat.reduceMul, Nat.reduceLT, Nat.reduceEqDiff, ↓reduceIte, planIds, List.contains_cons, List.contains_nil, Nat.reduceBEq, setC, List.length_set, reduceCtorEq, eq_self, Nat.zero_add, planIds, List.contains_cons, List.contains_nil, Nat.reduceBEq, Nat.reduceMul, Nat.reduceAdd, ↓reduceIte, hal, h2, h10, w1, g, ge_iff_le, Int.ofNat_le, Tryd.f92]
    exact stop e
  have hrh' : first + rt < d.size := by omega
  refine wc_scut (fun a T'' => T'' = T' ∧ a.length = 82 ∧ a[0]? = some (.os k 0 d.size x) ∧ a[2]? = some (.int .i64 hi) ∧ a[3]? = some (.int .i64 first) ∧ a[4]? = some (cf) ∧ a[10]? = some (.int .i64 rt) ∧ a[11]? = some (.int .i64 ch)) ?_ ?_
  · simp (maxSteps := 1000000) (disch := omega) only [push_cast, ↓wc_region, ↓wr_cons, ↓wr_nil, wo_some, opQ_eq, Nat.reduceAdd, Nat.reduceMul, Nat.reduceLT, Nat.reduceEqDiff, ↓reduceIte, planIds, List.contains_cons, List.contains_nil, Nat.reduceBEq, setC, List.length_set, reduceCtorEq, eq_self, Nat.zero_add, planIds, List.contains_cons, List.contains_nil, Nat.reduceBEq, Nat.reduceMul, Nat.reduceAdd, ↓reduceIte, hal, h0, h2, h3, h4, h10, w1]
  clear hal h0 h2 h3 h4 h10 a
  rintro a T'' ⟨rfl, hal, h0, h2, h3, h4, h10, h11⟩
  refine wc_scut (fun a T => T = T'' ∧ a.length = 82 ∧ a[0]? = some (.os k 0 d.size x) ∧ a[2]? = some (.int .i64 hi) ∧ a[3]? = some (.int .i64 first) ∧ a[4]? = some (cf) ∧ a[10]? = some (.int .i64 rt) ∧ a[11]? = some (.int .i64 ch)) ?_ ?_
  · simp (maxSteps := 1000000) (disch := omega) only [push_cast, ↓wc_seq, ↓wc_condL, ↓wc_region, ↓wr_cons, ↓wr_nil, ↓wc_skip, wo_some, opQ_eq, seqQ_normal, pickC_false, Nat.reduceAdd, Nat.reduceMul, Nat.reduceLT, Nat.reduceEqDiff, ↓reduceIte, planIds, List.contains_cons, List.contains_nil, Nat.reduceBEq, setC, List.length_set, reduceCtorEq, eq_self, Nat.zero_add, planIds, List.contains_cons, List.contains_nil, Nat.reduceBEq, Nat.reduceMul, Nat.reduceAdd, ↓reduceIte, hal, h0, h2, h3, h4, h10, h11, g, ge_iff_le, Int.ofNat_le]
  clear hal h0 h2 h3 h4 h10 h11 a
  rintro a T' ⟨rfl, hal, h0, h2, h3, h4, h10, h11⟩
  obtain ⟨p1, hp1⟩ : ∃ p, p = first + ch := ⟨_, rfl⟩
  obtain ⟨p2, hp2⟩ : ∃ p, p = first + ch + 1 := ⟨_, rfl⟩
  obtain ⟨ch2, hch2⟩ : ∃ p, p = ch + 1 := ⟨_, rfl⟩
  have w2 : IntKind.i64.wrap ((ch : Int) + 1) = (ch2 : Int) := by rw [wrap_ok (by omega) (by omega)]; omega
  have w3 : IntKind.i64.wrap ((first : Int) + (ch : Int)) = (p1 : Int) := by rw [wrap_ok (by omega) (by omega)]; omega
  have w4 : IntKind.i64.wrap ((p1 : Int) + 1) = (p2 : Int) := by rw [wrap_ok (by omega) (by omega)]; omega
  have b1 : p1 < d.size := by omega
  have l1 := row_at (val := val) (d := d') (i := p1) (by omega)
  have key : ∃ m, (m = if ch + 1 < hi ∧ lt c d'[p1]! d'[p2]! = true then ch2 else ch) := ⟨_, rfl⟩
  obtain ⟨m, hm⟩ := key
  refine wc_scut (fun a T => T = T' ∧ a.length = 82 ∧ a[0]? = some (.os k 0 d.size x) ∧ a[2]? = some (.int .i64 hi) ∧ a[3]? = some (.int .i64 first) ∧ a[4]? = some (cf) ∧ a[10]? = some (.int .i64 rt) ∧ a[11]? = some (.int .i64 m)) ?_ ?_
  · by_cases g2 : ch2 < hi
    case neg =>
      rw [if_neg (by omega)] at hm
      simp (maxSteps := 1000000) (disch := omega) only [push_cast, ↓wc_seq, ↓wc_condL, ↓wc_region, ↓wr_cons, ↓wr_consgL, ↓wr_nil, ↓wo_pickL, ↓wc_skip, wo_some, opQ_eq, seqQ_normal, pickC_false, pickO_false, gstep_ft, Nat.reduceAdd, Nat.reduceMul, Nat.reduceLT, Nat.reduceEqDiff, ↓reduceIte, planIds, List.contains_cons, List.contains_nil, Nat.reduceBEq, setC, List.length_set, reduceCtorEq, eq_self, Int.ofNat_lt, Nat.zero_add, planIds, List.contains_cons, List.contains_nil, Nat.reduceBEq, Nat.reduceMul, Nat.reduceAdd, ↓reduceIte, hal, h0, h2, h3, h4, h10, h11, w2, g2, hm]
    have b2 : p2 < d.size := by omega
    have l2 := row_at (val := val) (d := d') (i := p2) (by omega)
    have cc := fun st => hC n (by omega) d' T' hr st d'[p1]! d'[p2]!
    by_cases e1 : c d'[p1]! d'[p2]! < 0
    · rw [if_pos ⟨by omega, by simpa [lt] using e1⟩] at hm
      simp (maxSteps := 1000000) (disch := omega) only [push_cast, ↓wc_seq, ↓wc_condL, ↓wc_region, ↓wr_cons, ↓wr_consgL, ↓wr_nil, ↓wo_pickL, wo_some, opQ_eq, seqQ_normal, pickC_true, pickO_true, gstep_tt, Nat.reduceAdd, Nat.reduceMul, Nat.reduceLT, Nat.reduceEqDiff, ↓reduceIte, planIds, List.contains_cons, List.contains_nil, Nat.reduceBEq, setC, List.length_set, reduceCtorEq, eq_self, Int.natCast_nonneg, Int.toNat_natCast, Int.ofNat_lt, Nat.zero_add, planIds, List.contains_cons, List.contains_nil, Nat.reduceBEq, Nat.reduceMul, Nat.reduceAdd, ↓reduceIte, hal, h0, h2, h3, h4, h10, h11, w2, w3, w4, g2, hm, hr.row, sz_el, b1, b2, l1, l2, ↓wo_callv, cc, e1]
    · rw [if_neg (by simp [lt, e1])] at hm
      simp (maxSteps := 1000000) (disch := omega) only [push_cast, ↓wc_seq, ↓wc_condL, ↓wc_region, ↓wr_cons, ↓wr_consgL, ↓wr_nil, ↓wo_pickL, ↓wc_skip, wo_some, opQ_eq, seqQ_normal, pickC_false, pickO_true, gstep_tt, Nat.reduceAdd, Nat.reduceMul, Nat.reduceLT, Nat.reduceEqDiff, ↓reduceIte, planIds, List.contains_cons, List.contains_nil, Nat.reduceBEq, setC, List.length_set, reduceCtorEq, eq_self, Int.natCast_nonneg, Int.toNat_natCast, Int.ofNat_lt, Nat.zero_add, planIds, List.contains_cons, List.contains_nil, Nat.reduceBEq, Nat.reduceMul, Nat.reduceAdd, ↓reduceIte, hal, h0, h2, h3, h4, h10, h11, w2, w3, w4, g2, hm, hr.row, sz_el, b1, b2, l1, l2, ↓wo_callv, cc, e1]
  clear hal h0 h2 h3 h4 h10 h11 a
  clear l1
  rintro a T ⟨rfl, hal, h0, h2, h3, h4, h10, h11⟩
  have hmh : m < hi ∧ rt < m := by
    split at hm <;> omega
  obtain ⟨q1, hq1⟩ : ∃ p, p = first + rt := ⟨_, rfl⟩
  obtain ⟨q2, hq2⟩ : ∃ p, p = first + m := ⟨_, rfl⟩
  have w5 : IntKind.i64.wrap ((first : Int) + (rt : Int)) = (q1 : Int) := by rw [wrap_ok (by omega) (by omega)]; omega
  have w6 : IntKind.i64.wrap ((first : Int) + (m : Int)) = (q2 : Int) := by rw [wrap_ok (by omega) (by omega)]; omega
  have b3 : q1 < d.size := by omega
  have b4 : q2 < d.size := by omega
  have l3 := row_at (val := val) (d := d') (i := q1) (by omega)
  have l4 := row_at (val := val) (d := d') (i := q2) (by omega)
  have l5 := row_at (val := val) (d := d'.setIfInBounds q1 d'[q2]!) (i := q2) (by simp; omega)
  have cc := fun st => hC n (by omega) d' T hr st d'[q1]! d'[q2]!
  have hu : Sort.siftDown (lt c) hi first rt d' = if lt c d'[q1]! d'[q2]! = true then Sort.siftDown (lt c) hi first m (Sort.swp d' q1 q2) else d' := by
    rw [Sort.siftDown, dif_neg (by omega)]
    subst hq1 hq2 hp1 hp2 hch2 hch
    by_cases g3 : 2 * rt + 1 + 1 < hi ∧ lt c d'[first + (2 * rt + 1)]! d'[first + (2 * rt + 1) + 1]! = true
    · rw [if_pos g3] at hm
      subst hm
      rw [if_pos (by simpa using g3), dif_pos (by omega)]
      cases lt c d'[first + rt]! d'[first + (2 * rt + 1 + 1)]! <;> rfl
    · rw [if_neg g3] at hm
      subst hm
      rw [if_neg (by simpa using g3)]
      cases lt c d'[first + rt]! d'[first + (2 * rt + 1)]! <;> rfl
  by_cases e1 : c d'[q1]! d'[q2]! < 0
  case neg =>
    rw [if_neg (by simp [lt, e1])] at hu
    simp (maxSteps := 1000000) (disch := omega) only [push_cast, ↓wc_seq, ↓wc_condL, ↓wc_region, ↓wr_cons, ↓wr_nil, ↓wc_ret, wo_some, opQ_eq, seqQ_normal, seqQ_ret, blockQ_ret, iterQ_ret, retQ_ret, pickC_true, Nat.reduceAdd, Nat.reduceMul, Nat.reduceLT, Nat.reduceEqDiff, ↓reduceIte, planIds, List.contains_cons, List.contains_nil, Nat.reduceBEq, setC, List.length_set, reduceCtorEq, eq_self, Int.natCast_nonneg, Int.toNat_natCast, Int.ofNat_lt, Nat.zero_add, planIds, List.contains_cons, List.contains_nil, Nat.reduceBEq, Nat.reduceMul, Nat.reduceAdd, ↓reduceIte, hal, h0, h3, h4, h10, h11, w5, w6, hr.row, sz_el, b3, b4, l3, l4, ↓wo_callv, cc, e1, Tryd.f92]
    exact stop hu
  rw [if_pos (by simp [lt, e1])] at hu
  have hkl := hr.lt
  have cv : ∀ y, (val y).cells = [val y] := fun y => cells_one (hv y)
  simp only [D.cells] at cv
  have ov := hv
  simp only [D.one] at ov
  simp (maxSteps := 1000000) (disch := omega) only [push_cast, ↓wc_seq, ↓wc_condL, ↓wc_region, ↓wr_cons, ↓wr_nil, ↓wc_skip, wo_some, opQ_eq, seqQ_normal, blockQ_normal, iterQ_normal, pickC_false, Nat.reduceAdd, Nat.reduceMul, Nat.reduceLT, Nat.reduceLeDiff, Nat.reduceEqDiff, ↓reduceIte, planIds, List.contains_cons, List.contains_nil, Nat.reduceBEq, setC, List.length_set, reduceCtorEq, eq_self, Int.natCast_nonneg, Int.toNat_natCast, Int.ofNat_lt, D.int.injEq, Option.some.injEq, Nat.zero_add, planIds, List.contains_cons, List.contains_nil, Nat.reduceBEq, Nat.reduceMul, Nat.reduceAdd, ↓reduceIte, hal, h0, h2, h3, h4, h10, h11, w5, w6, hr.row, sz_el, b3, b4, l3, l4, ↓wo_callv, cc, e1, l5, hkl, cv, ov, row_set, List.set_set]
  exact ⟨by omega, Sort.swp d' q1 q2, m, rfl, ⟨by omega, .inr (by omega), by omega⟩, by rw [swp_size]; exact hs, hr.put, by rw [hq, hu]⟩
set_option maxHeartbeats 4000000 in
set_option maxRecDepth 100000 in
theorem heap_d {n n0 lo hi : Nat} {x : Bool} (hv : ∀ x, (val x).one = true) (hC : CmpOk n0 S0 k val cf c) (hn : n0 + d.size + 4 ≤ n) (hab : lo < hi) (hb : hi ≤ d.size) (hz : d.size ≤ 100000) (h : R S0 k val d T) :
    WO (dcall E (n + 1) 79 [.os k 0 d.size x, .int .i64 lo, .int .i64 hi, cf] T) fun _ T' => R S0 k val (Sort.heapSort (lt c) d lo hi) T' := by
  refine wo_dcall Tryd.func79 rfl (by decide) rfl 60 rfl (fun a hal ha => ?_)
  have h0 : a[0]? = some (.os k 0 d.size x) := ha 0 (by simp)
  have h1 : a[1]? = some (.int .i64 lo) := ha 1 (by simp)
  have h2 : a[2]? = some (.int .i64 hi) := ha 2 (by simp)
  have h3 : a[3]? = some (cf) := ha 3 (by simp)
  clear ha
  obtain ⟨ln, hln⟩ : ∃ ln, ln = hi - lo := ⟨_, rfl⟩
  obtain ⟨m, hm⟩ : ∃ m, m = (ln - 1) / 2 := ⟨_, rfl⟩
  have w1 : IntKind.i64.wrap ((hi : Int) - (lo : Int)) = (ln : Int) := by rw [wrap_ok (by omega) (by omega)]; omega
  have w2 : IntKind.i64.wrap ((IntKind.i64.wrap ((ln : Int) - 1)).tdiv 2) = (m : Int) := by
    rw [wrap_ok (x := (ln : Int) - 1) (by omega) (by omega), show ((ln : Int) - 1) = ((ln - 1 : Nat) : Int) by omega, show (2 : Int) = ((2 : Nat) : Int) from rfl, ← Int.ofNat_tdiv, wrap_ok (by omega) (by omega), hm]
  have hhs : Sort.heapSort (lt c) d lo hi = Sort.heapPop (lt c) lo ln (Sort.heapBuild (lt c) ln lo (m + 1) d) := by rw [Sort.heapSort, hm, hln]
  rw [hhs]
  -- the heap is built
  rw [wc_asc, wc_asc]
  refine wc_scut (fun a T' => T' = T ∧ a.length = 60 ∧ a[0]? = some (.os k 0 d.size x) ∧ a[3]? = some (cf) ∧ a[8]? = some (.int .i64 lo) ∧ a[9]? = some (.int .i64 0) ∧ a[10]? = some (.int .i64 ln)) ?_ ?_
  · simp (maxSteps := 1000000) (disch := omega) only [push_cast, ↓wc_seq, ↓wc_region, ↓wr_cons, ↓wr_nil, wo_some, opQ_eq, seqQ_normal, Nat.reduceAdd, Nat.reduceMul, Nat.reduceLT, Nat.reduceEqDiff, ↓reduceIte, planIds, List.contains_cons, List.contains_nil, Nat.reduceBEq, setC, List.length_set, reduceCtorEq, eq_self, Nat.zero_add, planIds, List.contains_cons, List.contains_nil, Nat.reduceBEq, Nat.reduceMul, Nat.reduceAdd, ↓reduceIte, hal, h0, h1, h2, h3, w1]
  clear hal h0 h1 h2 h3 a
  rintro a T' ⟨rfl, hal, h0, h3, h8, h9, h10⟩
  refine wc_scut (fun a T' => ∃ d' : Array α, a.length = 60 ∧ a[0]? = some (.os k 0 d.size x) ∧ a[3]? = some (cf) ∧ a[8]? = some (.int .i64 lo) ∧ a[9]? = some (.int .i64 0) ∧ a[10]? = some (.int .i64 ln) ∧ d'.size = d.size ∧ R S0 k val d' T' ∧ Sort.heapBuild (lt c) ln lo (m + 1) d = d') ?_ ?_
  · simp (maxSteps := 1000000) (disch := omega) only [push_cast, ↓wc_seq, ↓wc_block, ↓wc_region, ↓wr_cons, ↓wr_nil, ↓wc_wl, wo_some, opQ_eq, seqQ_normal, Nat.reduceAdd, Nat.reduceMul, Nat.reduceLT, Int.reduceEq, ↓reduceIte, planIds, List.contains_cons, List.contains_nil, Nat.reduceBEq, setC, List.length_set, eq_self, Nat.zero_add, planIds, List.contains_cons, List.contains_nil, Nat.reduceBEq, Nat.reduceMul, Nat.reduceAdd, ↓reduceIte, hal, h10, w2]
    refine wl_loop (fun i a T' => ∃ (d' : Array α) (j : Nat), a.length = 60 ∧ a[0]? = some (.os k 0 d.size x) ∧ a[3]? = some (cf) ∧ a[8]? = some (.int .i64 lo) ∧ a[9]? = some (.int .i64 0) ∧ a[10]? = some (.int .i64 ln) ∧ a[11]? = some (.int .i64 ((j : Int) - 1)) ∧ j + i = m + 1 ∧ d'.size = d.size ∧ R S0 k val d' T' ∧ Sort.heapBuild (lt c) ln lo (m + 1) d = Sort.heapBuild (lt c) ln lo j d') (m + 1) ?_ (by omega) ?_
    · refine ⟨d, m + 1, ?_⟩
      simp (maxSteps := 1000000) (disch := omega) only [push_cast, Nat.reduceLT, Nat.reduceEqDiff, ↓reduceIte, setC, List.length_set, reduceCtorEq, eq_self, Nat.add_zero, ↓reduceIte, hal, h0, h3, h8, h9, h10, Int.natCast_add, Int.natCast_one, Int.add_sub_cancel]
      exact h
    clear hal h0 h3 h8 h9 h10 a
    rintro i a T2 hi' ⟨d', j, hal, h0, h3, h8, h9, h10, h11, hj, hs, hr, hq⟩
    cases j with
    | zero =>
      have g : ¬ (0 : Int) ≤ ((0 : Nat) : Int) - 1 := by omega
      simp (maxSteps := 1000000) (disch := omega) only [push_cast, ↓wc_seq, ↓wc_condL, ↓wc_region, ↓wr_cons, ↓wr_nil, ↓wc_exit, wo_some, opQ_eq, seqQ_normal, seqQ_exit, blockQ_exit, iterQ_exit, pickC_false, Nat.reduceAdd, Nat.reduceMul, Nat.reduceLT, Nat.reduceEqDiff, Int.reduceSub, Int.reduceNeg, Int.reduceLE, ↓reduceIte, planIds, List.contains_cons, List.contains_nil, Nat.reduceBEq, setC, List.length_set, reduceCtorEq, eq_self, Nat.zero_add, planIds, List.contains_cons, List.contains_nil, Nat.reduceBEq, Nat.reduceMul, Nat.reduceAdd, ↓reduceIte, hal, h0, h3, h8, h9, h10, h11, ge_iff_le]
      exact ⟨d', hs, hr, hq⟩
    | succ j =>
      rw [show (((j + 1 : Nat) : Int) - 1) = (j : Int) by omega] at h11
      obtain ⟨_, T3, hT3, r3, s3⟩ := sift_d (n := n - 1) (lo := j) (hi := ln) (first := lo) (x := x) hv hC (by omega) (by omega) (by omega) (by omega) hr
      rw [show n - 1 + 1 = n by omega, hs] at hT3
      have hcall := (callD_own (f := 92) rfl pure_own).trans hT3
      simp (maxSteps := 1000000) (disch := omega) only [push_cast, ↓wc_seq, ↓wc_block, ↓wc_condL, ↓wc_region, ↓wr_cons, ↓wr_nil, ↓wo_callf, ↓wc_skip, wo_some, opQ_eq, seqQ_normal, blockQ_normal, iterQ_normal, pickC_true, Nat.reduceAdd, Nat.reduceMul, Nat.reduceLT, Nat.reduceEqDiff, ↓reduceIte, planIds, hasExt, cntFs, idxFs, clnFs, ovlFs, List.contains_cons, List.contains_nil, List.any_nil, Nat.reduceBEq, setC, List.length_set, reduceCtorEq, eq_self, Int.natCast_nonneg, D.int.injEq, Option.some.injEq, Nat.zero_add, planIds, hasExt, cntFs, idxFs, clnFs, ovlFs, List.contains_cons, List.contains_nil, List.any_nil, Nat.reduceBEq, Nat.reduceMul, Nat.reduceAdd, ↓reduceIte, hal, h0, h3, h8, h9, h10, h11, ge_iff_le, hcall, wrap_ok]
      exact ⟨by omega, _, j, rfl, by omega, by rw [s3]; exact hs, r3, by rw [hq, Sort.heapBuild]⟩
  clear hal h0 h3 h8 h9 h10 a
  clear h
  rintro a T2 ⟨d1, hal, h0, h3, h8, h9, h10, hs1, hr1, hq1⟩
  rw [hq1]
  clear hq1 hhs
  obtain ⟨l1, hl1⟩ : ∃ l1, ln = l1 + 1 := ⟨ln - 1, by omega⟩
  have w3 : IntKind.i64.wrap ((ln : Int) - 1) = (ln : Int) - 1 := by rw [wrap_ok (by omega) (by omega)]
  simp (maxSteps := 1000000) (disch := omega) only [push_cast, ↓wc_seq, ↓wc_block, ↓wc_region, ↓wr_cons, ↓wr_nil, ↓wc_wl, wo_some, opQ_eq, seqQ_normal, Nat.reduceAdd, Nat.reduceMul, Nat.reduceLT, ↓reduceIte, planIds, List.contains_cons, List.contains_nil, Nat.reduceBEq, setC, List.length_set, eq_self, Nat.zero_add, planIds, List.contains_cons, List.contains_nil, Nat.reduceBEq, Nat.reduceMul, Nat.reduceAdd, ↓reduceIte, hal, h10, w3, wc_wl]
  refine wl_loop (fun i a T' => ∃ (d' : Array α) (j : Nat), a.length = 60 ∧ a[0]? = some (.os k 0 d.size x) ∧ a[3]? = some (cf) ∧ a[8]? = some (.int .i64 lo) ∧ a[9]? = some (.int .i64 0) ∧ a[12]? = some (.int .i64 ((j : Int) - 1)) ∧ j + i = ln ∧ d'.size = d.size ∧ R S0 k val d' T' ∧ Sort.heapPop (lt c) lo ln d1 = Sort.heapPop (lt c) lo j d') ln ?_ (by omega) ?_
  · refine ⟨d1, ln, ?_⟩
    simp (maxSteps := 1000000) (disch := omega) only [push_cast, Nat.reduceLT, Nat.reduceEqDiff, ↓reduceIte, setC, List.length_set, reduceCtorEq, eq_self, Nat.add_zero, ↓reduceIte, hal, h0, h3, h8, h9]
    exact ⟨hs1, hr1⟩
  clear hal h0 h3 h8 h9 h10 a
  clear hr1 hs1
  rintro i a T2 hi' ⟨d', j, hal, h0, h3, h8, h9, h12, hj, hs, hr, hq⟩
  cases j with
  | zero =>
    have g : ¬ (0 : Int) ≤ ((0 : Nat) : Int) - 1 := by omega
    simp (maxSteps := 1000000) (disch := omega) only [push_cast, ↓wc_seq, ↓wc_condL, ↓wc_region, ↓wr_cons, ↓wr_nil, ↓wc_exit, wo_some, opQ_eq, seqQ_normal, seqQ_exit, blockQ_exit, iterQ_exit, retQ_normal, pickC_false, Nat.reduceAdd, Nat.reduceMul, Nat.reduceLT, Int.reduceSub, Int.reduceNeg, Int.reduceLE, ↓reduceIte, planIds, List.contains_cons, List.contains_nil, Nat.reduceBEq, setC, List.length_set, eq_self, Nat.zero_add, planIds, List.contains_cons, List.contains_nil, Nat.reduceBEq, Nat.reduceMul, Nat.reduceAdd, ↓reduceIte, hal, h12, ge_iff_le, Tryd.f79]
    rw [hq, Sort.heapPop]; exact hr
  | succ j =>
    rw [show (((j + 1 : Nat) : Int) - 1) = (j : Int) by omega] at h12
    obtain ⟨p, hp⟩ : ∃ p, p = lo + j := ⟨_, rfl⟩
    have w4 : IntKind.i64.wrap ((lo : Int) + (j : Int)) = (p : Int) := by rw [wrap_ok (by omega) (by omega)]; omega
    have b1 : lo < d.size := by omega
    have b2 : p < d.size := by omega
    have i1 := row_at (val := val) (d := d') (i := lo) (by omega)
    have i2 := row_at (val := val) (d := d') (i := p) (by omega)
    have i3 := row_at (val := val) (d := d'.setIfInBounds lo d'[p]!) (i := p) (by simp; omega)
    have hkl := hr.lt
    have cv : ∀ y, (val y).cells = [val y] := fun y => cells_one (hv y)
    simp only [D.cells] at cv
    have ov := hv
    simp only [D.one] at ov
    have hr2 : R S0 k val (Sort.swp d' lo p) _ := hr.put
    obtain ⟨_, T3, hT3, r3, s3⟩ := sift_d (n := n - 1) (lo := 0) (hi := j) (first := lo) (x := x) hv hC (by rw [swp_size]; omega) (by rw [swp_size]; omega) (by rw [swp_size]; omega) (by omega) hr2
    rw [show n - 1 + 1 = n by omega, swp_size, hs] at hT3
    have hcall := (callD_own (f := 92) rfl pure_own).trans hT3
    simp only [Sort.swp, Int.natCast_zero] at hcall
    simp (maxSteps := 1000000) (disch := omega) only [push_cast, ↓wc_seq, ↓wc_block, ↓wc_condL, ↓wc_region, ↓wr_cons, ↓wr_nil, ↓wo_callf, ↓wc_skip, wo_some, opQ_eq, seqQ_normal, blockQ_normal, iterQ_normal, pickC_true, Nat.reduceAdd, Nat.reduceMul, Nat.reduceLT, Nat.reduceLeDiff, Nat.reduceEqDiff, ↓reduceIte, planIds, hasExt, cntFs, idxFs, clnFs, ovlFs, List.contains_cons, List.contains_nil, List.any_nil, Nat.reduceBEq, setC, List.length_set, reduceCtorEq, eq_self, Int.natCast_nonneg, Int.toNat_natCast, Int.ofNat_lt, D.int.injEq, Option.some.injEq, Nat.zero_add, planIds, hasExt, cntFs, idxFs, clnFs, ovlFs, List.contains_cons, List.contains_nil, List.any_nil, Nat.reduceBEq, Nat.reduceMul, Nat.reduceAdd, ↓reduceIte, hal, h0, h3, h8, h9, h12, ge_iff_le, w4, hr.row, sz_el, b1, b2, i1, i2, i3, hkl, cv, ov, row_set, List.set_set, hcall, wrap_ok]
    exact ⟨by omega, _, j, rfl, by omega, by rw [s3, swp_size]; exact hs, r3, by rw [hq, Sort.heapPop, hp]⟩
set_option maxHeartbeats 4000000 in
set_option maxRecDepth 100000 in
theorem rev_d {n lo hi : Nat} {x : Bool} (hv : ∀ x, (val x).one = true) (hn : d.size + 2 ≤ n) (hab : lo < hi) (hb : hi ≤ d.size) (hz : d.size ≤ 100000) (h : R S0 k val d T) :
    WO (dcall E (n + 1) 82 [.os k 0 d.size x, .int .i64 lo, .int .i64 hi, cf] T) fun _ T' => R S0 k val (Sort.reverseRange d lo hi) T' ∧ (Sort.reverseRange d lo hi).size = d.size := by
  refine wo_dcall Tryd.func82 rfl (by decide) rfl 34 rfl (fun a hal ha => ?_)
  have h0 : a[0]? = some (.os k 0 d.size x) := ha 0 (by simp)
  have h1 : a[1]? = some (.int .i64 lo) := ha 1 (by simp)
  have h2 : a[2]? = some (.int .i64 hi) := ha 2 (by simp)
  have h3 : a[3]? = some (cf) := ha 3 (by simp)
  clear ha
  obtain ⟨h1', hh1⟩ : ∃ h1, hi = h1 + 1 := ⟨hi - 1, by omega⟩
  have w1 : IntKind.i64.wrap ((hi : Int) - 1) = (h1' : Int) := by rw [wrap_ok (by omega) (by omega)]; omega
  simp (maxSteps := 1000000) (disch := omega) only [push_cast, ↓wc_seq, ↓wc_block, ↓wc_region, ↓wr_cons, ↓wr_nil, ↓wc_wl, wo_some, opQ_eq, seqQ_normal, Nat.reduceAdd, Nat.reduceMul, Nat.reduceLT, Nat.reduceEqDiff, ↓reduceIte, planIds, List.contains_cons, List.contains_nil, Nat.reduceBEq, setC, List.length_set, eq_self, Nat.zero_add, planIds, List.contains_cons, List.contains_nil, Nat.reduceBEq, Nat.reduceMul, Nat.reduceAdd, ↓reduceIte, hal, h1, h2, w1]
  refine wl_loop (fun i a T' => ∃ (d' : Array α) (p q : Nat), a.length = 34 ∧ a[0]? = some (.os k 0 d.size x) ∧ a[8]? = some (.int .i64 p) ∧ a[9]? = some (.int .i64 q) ∧ (p = lo + i ∧ q + i = h1' ∧ i ≤ h1') ∧ d'.size = d.size ∧ R S0 k val d' T' ∧ Sort.reverseRange d lo hi = Sort.reverseLoop p q d') h1' ?_ (by omega) ?_
  · refine ⟨d, lo, h1', ?_⟩
    simp (maxSteps := 1000000) (disch := omega) only [push_cast, Nat.reduceLT, Nat.reduceEqDiff, ↓reduceIte, setC, List.length_set, reduceCtorEq, eq_self, Nat.add_zero, ↓reduceIte, hal, h0]
    exact ⟨by omega, h, by rw [Sort.reverseRange, hh1, Nat.add_sub_cancel]⟩
  clear hal h0 h1 h2 h3 a
  rintro i a T2 hi' ⟨d', p, q, hal, h0, h8, h9, ⟨hp, hq, hi2⟩, hs, hr, he⟩
  by_cases g : p < q
  case neg =>
    rw [Sort.reverseLoop, if_neg g] at he
    simp (maxSteps := 1000000) (disch := omega) only [push_cast, ↓wc_seq, ↓wc_condL, ↓wc_region, ↓wr_cons, ↓wr_nil, ↓wc_exit, wo_some, opQ_eq, seqQ_normal, seqQ_exit, blockQ_exit, iterQ_exit, retQ_normal, pickC_false, Nat.reduceAdd, Nat.reduceMul, Nat.reduceLT, Nat.reduceEqDiff, ↓reduceIte, planIds, List.contains_cons, List.contains_nil, Nat.reduceBEq, setC, List.length_set, eq_self, Int.ofNat_lt, Nat.zero_add, planIds, List.contains_cons, List.contains_nil, Nat.reduceBEq, Nat.reduceMul, Nat.reduceAdd, ↓reduceIte, hal, h8, h9, g, Tryd.f82]
    rw [he]; exact ⟨hr, hs⟩
  rw [Sort.reverseLoop, if_pos g] at he
  obtain ⟨q', hq'⟩ : ∃ q', q = q' + 1 := ⟨q - 1, by omega⟩
  have w2 : IntKind.i64.wrap ((q : Int) - 1) = (q' : Int) := by rw [wrap_ok (by omega) (by omega)]; omega
  have b1 : p < d.size := by omega
  have b2 : q < d.size := by omega
  have i1 := row_at (val := val) (d := d') (i := p) (by omega)
  have i2 := row_at (val := val) (d := d') (i := q) (by omega)
  have i3 := row_at (val := val) (d := d'.setIfInBounds p d'[q]!) (i := q) (by simp; omega)
  have hkl := hr.lt
  have cv : ∀ y, (val y).cells = [val y] := fun y => cells_one (hv y)
  simp only [D.cells] at cv
  have ov := hv
  simp only [D.one] at ov
  simp (maxSteps := 1000000) (disch := omega) only [push_cast, ↓wc_seq, ↓wc_block, ↓wc_condL, ↓wc_region, ↓wr_cons, ↓wr_nil, ↓wc_skip, wo_some, opQ_eq, seqQ_normal, blockQ_normal, iterQ_normal, pickC_true, Nat.reduceAdd, Nat.reduceMul, Nat.reduceLT, Nat.reduceLeDiff, Nat.reduceEqDiff, ↓reduceIte, planIds, List.contains_cons, List.contains_nil, Nat.reduceBEq, setC, List.length_set, reduceCtorEq, eq_self, Int.natCast_nonneg, Int.toNat_natCast, Int.ofNat_lt, D.int.injEq, Option.some.injEq, Nat.zero_add, planIds, List.contains_cons, List.contains_nil, Nat.reduceBEq, Nat.reduceMul, Nat.reduceAdd, ↓reduceIte, hal, h0, h8, h9, g, w2, hr.row, sz_el, b1, b2, i1, i2, i3, hkl, cv, ov, row_set, List.set_set, wrap_ok]
  exact ⟨by omega, Sort.swp d' p q, p + 1, q', by simp only [Int.natCast_add, Int.natCast_one], rfl, ⟨by omega, by omega, by omega⟩, by rw [swp_size]; exact hs, hr.put, by rw [he, hq', Nat.add_sub_cancel]⟩
end Srt

namespace Srt
variable {α : Type} {S0 T : List Ob} {k : Nat} {val : α → D} {d : Array α} {cf : D} {c : α → α → Int}
variable [Inhabited α]
set_option maxHeartbeats 8000000 in
set_option maxRecDepth 100000 in
theorem partEq_d {n n0 lo hi pv : Nat} {x : Bool} (hv : ∀ x, (val x).one = true) (hC : CmpOk n0 S0 k val cf c) (hn : n0 + d.size + 4 ≤ n) (hp : lo ≤ pv) (hph : pv < hi) (hb : hi ≤ d.size) (hz : d.size ≤ 100000) (h : R S0 k val d T) :
    WO (dcall E (n + 1) 84 [.os k 0 d.size x, .int .i64 lo, .int .i64 hi, .int .i64 pv, cf] T) fun r T' => r = .int .i64 (Sort.partitionEqual (lt c) d lo hi pv).1 ∧ R S0 k val (Sort.partitionEqual (lt c) d lo hi pv).2 T' ∧ (Sort.partitionEqual (lt c) d lo hi pv).2.size = d.size := by
  refine wo_dcall Tryd.func84 rfl (by decide) rfl 90 rfl (fun a hal ha => ?_)
  have h0 : a[0]? = some (.os k 0 d.size x) := ha 0 (by simp)
  have h1 : a[1]? = some (.int .i64 lo) := ha 1 (by simp)
  have h2 : a[2]? = some (.int .i64 hi) := ha 2 (by simp)
  have h3 : a[3]? = some (.int .i64 pv) := ha 3 (by simp)
  have h4 : a[4]? = some (cf) := ha 4 (by simp)
  clear ha
  have cv : ∀ y, (val y).cells = [val y] := fun y => cells_one (hv y)
  simp only [D.cells] at cv
  have ov := hv
  simp only [D.one] at ov
  obtain ⟨i0, hi0⟩ : ∃ i0, i0 = lo + 1 := ⟨_, rfl⟩
  obtain ⟨j0, hj0⟩ : ∃ j0, hi = j0 + 1 := ⟨hi - 1, by omega⟩
  have w1 : IntKind.i64.wrap ((lo : Int) + 1) = (i0 : Int) := by rw [wrap_ok (by omega) (by omega)]; omega
  have w2 : IntKind.i64.wrap ((hi : Int) - 1) = (j0 : Int) := by rw [wrap_ok (by omega) (by omega)]; omega
  obtain ⟨d1, hd1⟩ : ∃ d1, d1 = Sort.swp d lo pv := ⟨_, rfl⟩
  have hP : Sort.partitionEqual (lt c) d lo hi pv = Sort.partEqLoop (lt c) lo i0 j0 d1 := by rw [Sort.partitionEqual, hj0, hi0, hd1, Nat.add_sub_cancel]
  rw [hP]
  have hs1 : d1.size = d.size := by rw [hd1, swp_size]
  rw [wc_asc, wc_asc]
  refine wc_scut (fun a T' => a.length = 90 ∧ a[0]? = some (.os k 0 d.size x) ∧ a[1]? = some (.int .i64 lo) ∧ a[4]? = some (cf) ∧ a[11]? = some (.int .i64 i0) ∧ a[12]? = some (.int .i64 j0) ∧ R S0 k val d1 T') ?_ ?_
  · have hr := h
    have b1 : lo < d.size := by omega
    have b2 : pv < d.size := by omega
    have l1 := row_at (val := val) (d := d) (i := lo) (by omega)
    have l2 := row_at (val := val) (d := d) (i := pv) (by omega)
    have l3 := row_at (val := val) (d := d.setIfInBounds lo d[pv]!) (i := pv) (by simp; omega)
    have hkl := hr.lt
    simp (maxSteps := 1000000) (disch := omega) only [push_cast, ↓wc_seq, ↓wc_region, ↓wr_cons, ↓wr_nil, wo_some, opQ_eq, seqQ_normal, Nat.reduceAdd, Nat.reduceMul, Nat.reduceLT, Nat.reduceLeDiff, Nat.reduceEqDiff, ↓reduceIte, planIds, List.contains_cons, List.contains_nil, Nat.reduceBEq, setC, List.length_set, reduceCtorEq, eq_self, Int.natCast_nonneg, Int.toNat_natCast, Int.ofNat_lt, Nat.zero_add, planIds, List.contains_cons, List.contains_nil, Nat.reduceBEq, Nat.reduceMul, Nat.reduceAdd, ↓reduceIte, hal, h0, h1, h2, h3, h4, w1, w2, hr.row, sz_el, b1, b2, l1, l2, l3, hkl, cv, ov, row_set, List.set_set]
    rw [hd1]; exact hr.put
  clear hal h0 h1 h2 h3 h4 a
  clear h
  rintro a T0 ⟨hal, h0, h1, h4, h11, h12, hr0⟩
  refine wc_scut (fun a T' => ∃ r : Nat × Array α, a.length = 90 ∧ a[11]? = some (.int .i64 r.1) ∧ R S0 k val r.2 T' ∧ r.2.size = d.size ∧ Sort.partEqLoop (lt c) lo i0 j0 d1 = r) ?_ ?_
  case refine_2 =>
    clear hal h0 h1 h4 h11 h12 hr0 a
    rintro a T' ⟨r, hal, h11, hr, hs, hq⟩
    simp (maxSteps := 1000000) (disch := omega) only [push_cast, ↓wc_seq, ↓wc_region, ↓wr_cons, ↓wr_nil, ↓wc_ret, wo_some, opQ_eq, seqQ_normal, retQ_ret, Nat.reduceAdd, Nat.reduceMul, Nat.reduceLT, ↓reduceIte, planIds, List.contains_cons, List.contains_nil, Nat.reduceBEq, setC, List.length_set, eq_self, D.int.injEq, Nat.zero_add, planIds, List.contains_cons, List.contains_nil, Nat.reduceBEq, Nat.reduceMul, Nat.reduceAdd, ↓reduceIte, hal, h11, Tryd.f84]
    rw [hq]; exact ⟨rfl, hr, hs⟩
  simp (maxSteps := 1000000) (disch := omega) only [push_cast, ↓wc_block, ↓wc_wl]
  refine wl_loop (fun r a T' => ∃ (d2 : Array α) (i j : Nat), a.length = 90 ∧ a[0]? = some (.os k 0 d.size x) ∧ a[1]? = some (.int .i64 lo) ∧ a[4]? = some (cf) ∧ a[11]? = some (.int .i64 i) ∧ a[12]? = some (.int .i64 j) ∧ (i0 + r ≤ i ∧ j ≤ j0) ∧ d2.size = d.size ∧ R S0 k val d2 T' ∧ Sort.partEqLoop (lt c) lo i0 j0 d1 = Sort.partEqLoop (lt c) lo i j d2) d.size ?_ (by omega) ?_
  · refine ⟨d1, i0, j0, ?_⟩
    simp (maxSteps := 1000000) (disch := omega) only [push_cast, eq_self, Nat.add_zero, hal, h0, h1, h4, h11, h12]
    exact ⟨by omega, hs1, hr0⟩
  clear hal h0 h1 h4 h11 h12 a
  clear hr0 T0
  rintro rr a T1 hi1 ⟨d2, i, j, hal, h0, h1, h4, h11, h12, ⟨hri, hjj⟩, hs2, hr, hq⟩
  rw [wc_block]
  have hresi2 : ∃ r, r = Sort.scanUp (fun x => !lt c d2[lo]! x) d2 j i := ⟨_, rfl⟩
  obtain ⟨i2, hdi2⟩ := hresi2
  refine wc_scut (fun a T' => T' = T1 ∧ a.length = 90 ∧ a[0]? = some (.os k 0 d.size x) ∧ a[1]? = some (.int .i64 lo) ∧ a[4]? = some (cf) ∧ a[11]? = some (.int .i64 i2) ∧ a[12]? = some (.int .i64 j)) ?_ ?_
  · simp (maxSteps := 1000000) (disch := omega) only [push_cast, ↓wc_block, ↓wc_wl]
    refine wl_loop (fun r a T' => ∃ u : Nat, a.length = 90 ∧ a[0]? = some (.os k 0 d.size x) ∧ a[1]? = some (.int .i64 lo) ∧ a[4]? = some (cf) ∧ a[11]? = some (.int .i64 u) ∧ a[12]? = some (.int .i64 j) ∧ T' = T1 ∧ (u = i + r) ∧ i2 = Sort.scanUp (fun x => !lt c d2[lo]! x) d2 j u) d.size ?_ (by omega) ?_
    · refine ⟨i, ?_⟩
      simp (maxSteps := 1000000) (disch := omega) only [push_cast, eq_self, Nat.add_zero, hal, h0, h1, h4, h11, h12]
      exact hdi2
    clear hal h0 h1 h4 h11 h12 a
    rintro r a T' hi' ⟨u, hal, h0, h1, h4, h11, h12, rfl, hu, hq⟩
    by_cases g : u ≤ j
    case neg =>
      rw [Sort.scanUp, if_neg (by simp [g])] at hq
      simp (maxSteps := 1000000) (disch := omega) only [push_cast, ↓wc_seq, ↓wc_condL, ↓wc_region, ↓wr_cons, ↓wr_consgL, ↓wr_nil, ↓wo_pickL, ↓wc_exit, wo_some, opQ_eq, seqQ_normal, seqQ_exit, blockQ_exit, iterQ_exit, pickC_false, pickO_false, gstep_ft, Nat.reduceAdd, Nat.reduceMul, Nat.reduceLT, Nat.reduceEqDiff, ↓reduceIte, planIds, List.contains_cons, List.contains_nil, Nat.reduceBEq, setC, List.length_set, reduceCtorEq, eq_self, Nat.zero_add, planIds, List.contains_cons, List.contains_nil, Nat.reduceBEq, Nat.reduceMul, Nat.reduceAdd, ↓reduceIte, hal, h0, h1, h4, h11, h12, g, Int.ofNat_le, hq]
    have b1 : u < d.size := by omega
    rw [Sort.scanUp] at hq
    have b2 : lo < d.size := by omega
    have l1 := row_at (val := val) (d := d2) (i := u) (by omega)
    have l2 := row_at (val := val) (d := d2) (i := lo) (by omega)
    have cc := fun st => hC n (by omega) d2 T' hr st d2[lo]! d2[u]!
    by_cases e1 : c d2[lo]! d2[u]! < 0
    · rw [if_neg (by simp [lt, e1])] at hq
      simp (maxSteps := 1000000) (disch := omega) only [push_cast, ↓wc_seq, ↓wc_condL, ↓wc_region, ↓wr_cons, ↓wr_consgL, ↓wr_nil, ↓wo_pickL, ↓wc_exit, wo_some, opQ_eq, seqQ_normal, seqQ_exit, blockQ_exit, iterQ_exit, pickC_false, pickO_true, gstep_tt, Nat.reduceAdd, Nat.reduceMul, Nat.reduceLT, Nat.reduceEqDiff, ↓reduceIte, planIds, List.contains_cons, List.contains_nil, Nat.reduceBEq, setC, List.length_set, reduceCtorEq, eq_self, Int.natCast_nonneg, Int.toNat_natCast, Int.ofNat_lt, Nat.zero_add, planIds, List.contains_cons, List.contains_nil, Nat.reduceBEq, Nat.reduceMul, Nat.reduceAdd, ↓reduceIte, hal, h0, h1, h4, h11, h12, g, Int.ofNat_le, hr.row, sz_el, b1, b2, l1, l2, ↓wo_callv, cc, e1, hq]
    · rw [if_pos (by simp [lt, g, e1])] at hq
      simp (maxSteps := 1000000) (disch := omega) only [push_cast, ↓wc_seq, ↓wc_block, ↓wc_condL, ↓wc_region, ↓wr_cons, ↓wr_consgL, ↓wr_nil, ↓wo_pickL, ↓wc_skip, wo_some, opQ_eq, seqQ_normal, blockQ_normal, iterQ_normal, pickC_true, pickO_true, gstep_tt, Nat.reduceAdd, Nat.reduceMul, Nat.reduceLT, Nat.reduceEqDiff, ↓reduceIte, planIds, List.contains_cons, List.contains_nil, Nat.reduceBEq, setC, List.length_set, reduceCtorEq, eq_self, Int.natCast_nonneg, Int.toNat_natCast, Int.ofNat_lt, D.int.injEq, Option.some.injEq, Nat.zero_add, planIds, List.contains_cons, List.contains_nil, Nat.reduceBEq, Nat.reduceMul, Nat.reduceAdd, ↓reduceIte, hal, h0, h1, h4, h11, h12, g, Int.ofNat_le, hr.row, sz_el, b1, b2, l1, l2, ↓wo_callv, cc, e1, wrap_ok]
      exact ⟨by omega, u + 1, by simp only [Int.natCast_add, Int.natCast_one], by omega, hq⟩
  clear hal h0 h1 h4 h11 h12 a
  rintro a T2 ⟨rfl, hal, h0, h1, h4, h11, h12⟩
  have hi2 : i ≤ i2 := by rw [hdi2]; exact Sort.scanUp_ge _ _ _ _
  have hresj2 : ∃ r, r = Sort.scanDown (fun x => lt c d2[lo]! x) d2 i2 j := ⟨_, rfl⟩
  obtain ⟨j2, hdj2⟩ := hresj2
  refine wc_scut (fun a T' => T' = T2 ∧ a.length = 90 ∧ a[0]? = some (.os k 0 d.size x) ∧ a[1]? = some (.int .i64 lo) ∧ a[4]? = some (cf) ∧ a[11]? = some (.int .i64 i2) ∧ a[12]? = some (.int .i64 j2)) ?_ ?_
  · simp (maxSteps := 1000000) (disch := omega) only [push_cast, ↓wc_block, ↓wc_wl]
    refine wl_loop (fun r a T' => ∃ u : Nat, a.length = 90 ∧ a[0]? = some (.os k 0 d.size x) ∧ a[1]? = some (.int .i64 lo) ∧ a[4]? = some (cf) ∧ a[11]? = some (.int .i64 i2) ∧ a[12]? = some (.int .i64 u) ∧ T' = T2 ∧ (u + r = j) ∧ j2 = Sort.scanDown (fun x => lt c d2[lo]! x) d2 i2 u) d.size ?_ (by omega) ?_
    · refine ⟨j, ?_⟩
      simp (maxSteps := 1000000) (disch := omega) only [push_cast, eq_self, Nat.add_zero, hal, h0, h1, h4, h11, h12]
      exact hdj2
    clear hal h0 h1 h4 h11 h12 a
    rintro r a T' hi' ⟨u, hal, h0, h1, h4, h11, h12, rfl, hu, hq⟩
    cases u with
    | zero =>
      have g : ¬ i2 ≤ 0 := by omega
      have g' : ¬ (i2 : Int) ≤ ((0 : Nat) : Int) := by omega
      rw [Sort.scanDown] at hq
      simp only [Int.natCast_zero] at h12 g'
      simp (maxSteps := 1000000) (disch := omega) only [push_cast, ↓wc_seq, ↓wc_condL, ↓wc_region, ↓wr_cons, ↓wr_consgL, ↓wr_nil, ↓wo_pickL, ↓wc_exit, wo_some, opQ_eq, seqQ_normal, seqQ_exit, blockQ_exit, iterQ_exit, pickC_false, pickO_false, gstep_ft, Nat.reduceAdd, Nat.reduceMul, Nat.reduceLT, Nat.reduceEqDiff, ↓reduceIte, planIds, List.contains_cons, List.contains_nil, Nat.reduceBEq, setC, List.length_set, reduceCtorEq, eq_self, Nat.zero_add, planIds, List.contains_cons, List.contains_nil, Nat.reduceBEq, Nat.reduceMul, Nat.reduceAdd, ↓reduceIte, hal, h0, h1, h4, h11, h12, g', hq, Int.natCast_zero]
    | succ u' =>
    rw [Sort.scanDown] at hq
    obtain ⟨u, hu1⟩ : ∃ u, u = u' + 1 := ⟨_, rfl⟩
    rw [← hu1] at h12 hq hu
    have w0 : IntKind.i64.wrap ((u : Int) - 1) = (u' : Int) := by rw [wrap_ok (by omega) (by omega)]; omega
    by_cases g : i2 ≤ u
    case neg =>
      rw [if_neg (by simp [g])] at hq
      simp (maxSteps := 1000000) (disch := omega) only [push_cast, ↓wc_seq, ↓wc_condL, ↓wc_region, ↓wr_cons, ↓wr_consgL, ↓wr_nil, ↓wo_pickL, ↓wc_exit, wo_some, opQ_eq, seqQ_normal, seqQ_exit, blockQ_exit, iterQ_exit, pickC_false, pickO_false, gstep_ft, Nat.reduceAdd, Nat.reduceMul, Nat.reduceLT, Nat.reduceEqDiff, ↓reduceIte, planIds, List.contains_cons, List.contains_nil, Nat.reduceBEq, setC, List.length_set, reduceCtorEq, eq_self, Nat.zero_add, planIds, List.contains_cons, List.contains_nil, Nat.reduceBEq, Nat.reduceMul, Nat.reduceAdd, ↓reduceIte, hal, h0, h1, h4, h11, h12, g, Int.ofNat_le, hq]
    have b1 : u < d.size := by omega
    have b2 : lo < d.size := by omega
    have l1 := row_at (val := val) (d := d2) (i := u) (by omega)
    have l2 := row_at (val := val) (d := d2) (i := lo) (by omega)
    have cc := fun st => hC n (by omega) d2 T' hr st d2[lo]! d2[u]!
    by_cases e1 : c d2[lo]! d2[u]! < 0
    · rw [if_pos (by simp [lt, g, e1])] at hq
      simp (maxSteps := 1000000) (disch := omega) only [push_cast, ↓wc_seq, ↓wc_block, ↓wc_condL, ↓wc_region, ↓wr_cons, ↓wr_consgL, ↓wr_nil, ↓wo_pickL, ↓wc_skip, wo_some, opQ_eq, seqQ_normal, blockQ_normal, iterQ_normal, pickC_true, pickO_true, gstep_tt, Nat.reduceAdd, Nat.reduceMul, Nat.reduceLT, Nat.reduceEqDiff, ↓reduceIte, planIds, List.contains_cons, List.contains_nil, Nat.reduceBEq, setC, List.length_set, reduceCtorEq, eq_self, Int.natCast_nonneg, Int.toNat_natCast, Int.ofNat_lt, D.int.injEq, Option.some.injEq, Nat.zero_add, planIds, List.contains_cons, List.contains_nil, Nat.reduceBEq, Nat.reduceMul, Nat.reduceAdd, ↓reduceIte, hal, h0, h1, h4, h11, h12, g, Int.ofNat_le, hr.row, sz_el, b1, b2, l1, l2, ↓wo_callv, cc, e1, w0]
      exact ⟨by omega, u', rfl, by omega, hq⟩
    · rw [if_neg (by simp [lt, e1])] at hq
      simp (maxSteps := 1000000) (disch := omega) only [push_cast, ↓wc_seq, ↓wc_condL, ↓wc_region, ↓wr_cons, ↓wr_consgL, ↓wr_nil, ↓wo_pickL, ↓wc_exit, wo_some, opQ_eq, seqQ_normal, seqQ_exit, blockQ_exit, iterQ_exit, pickC_false, pickO_true, gstep_tt, Nat.reduceAdd, Nat.reduceMul, Nat.reduceLT, Nat.reduceEqDiff, ↓reduceIte, planIds, List.contains_cons, List.contains_nil, Nat.reduceBEq, setC, List.length_set, reduceCtorEq, eq_self, Int.natCast_nonneg, Int.toNat_natCast, Int.ofNat_lt, Nat.zero_add, planIds, List.contains_cons, List.contains_nil, Nat.reduceBEq, Nat.reduceMul, Nat.reduceAdd, ↓reduceIte, hal, h0, h1, h4, h11, h12, g, Int.ofNat_le, hr.row, sz_el, b1, b2, l1, l2, ↓wo_callv, cc, e1, hq]
  clear hal h0 h1 h4 h11 h12 a
  rintro a T3 ⟨rfl, hal, h0, h1, h4, h11, h12⟩
  have hj2 : j2 ≤ j := by rw [hdj2]; exact Sort.scanDown_le _ _ _ _
  have hU := Sort.partEqLoop_eq (lt := lt c) lo i j d2
  simp only [← hdi2, ← hdj2] at hU
  by_cases g : j2 < i2
  · rw [if_pos g] at hU
    simp (maxSteps := 1000000) (disch := omega) only [push_cast, ↓wc_seq, ↓wc_condL, ↓wc_region, ↓wr_cons, ↓wr_nil, ↓wc_exit, wo_some, opQ_eq, seqQ_normal, seqQ_exit, blockQ_exit, iterQ_exit, pickC_true, Nat.reduceAdd, Nat.reduceMul, Nat.reduceLT, Nat.reduceEqDiff, ↓reduceIte, planIds, List.contains_cons, List.contains_nil, Nat.reduceBEq, setC, List.length_set, reduceCtorEq, eq_self, Int.ofNat_lt, D.int.injEq, Option.some.injEq, Nat.zero_add, gt_iff_lt, planIds, List.contains_cons, List.contains_nil, Nat.reduceBEq, Nat.reduceMul, Nat.reduceAdd, ↓reduceIte, hal, h11, h12, gt_iff_lt, g]
    exact ⟨(i2, d2), rfl, hr, hs2, by rw [hq, hU]⟩
  rw [if_neg g] at hU
  obtain ⟨j3, hj3⟩ : ∃ j3, j2 = j3 + 1 := ⟨j2 - 1, by omega⟩
  have w3 : IntKind.i64.wrap ((j2 : Int) - 1) = (j3 : Int) := by rw [wrap_ok (by omega) (by omega)]; omega
  have b1 : i2 < d.size := by omega
  have b2 : j2 < d.size := by omega
  have l1 := row_at (val := val) (d := d2) (i := i2) (by omega)
  have l2 := row_at (val := val) (d := d2) (i := j2) (by omega)
  have l3 := row_at (val := val) (d := d2.setIfInBounds i2 d2[j2]!) (i := j2) (by simp; omega)
  have hkl := hr.lt
  simp (maxSteps := 1000000) (disch := omega) only [push_cast, ↓wc_seq, ↓wc_condL, ↓wc_region, ↓wr_cons, ↓wr_nil, ↓wc_skip, wo_some, opQ_eq, seqQ_normal, blockQ_normal, iterQ_normal, pickC_false, Nat.reduceAdd, Nat.reduceMul, Nat.reduceLT, Nat.reduceLeDiff, Nat.reduceEqDiff, ↓reduceIte, planIds, List.contains_cons, List.contains_nil, Nat.reduceBEq, setC, List.length_set, reduceCtorEq, eq_self, Int.natCast_nonneg, Int.toNat_natCast, Int.ofNat_lt, D.int.injEq, Option.some.injEq, Nat.zero_add, gt_iff_lt, planIds, List.contains_cons, List.contains_nil, Nat.reduceBEq, Nat.reduceMul, Nat.reduceAdd, ↓reduceIte, hal, h0, h1, h4, h11, h12, gt_iff_lt, g, w3, wrap_ok, hr.row, sz_el, b1, b2, l1, l2, l3, hkl, cv, ov, row_set, List.set_set]
  exact ⟨by omega, Sort.swp d2 i2 j2, i2 + 1, j3, by simp only [Int.natCast_add, Int.natCast_one], rfl, ⟨by omega, by omega⟩, by rw [swp_size]; exact hs2, hr.put, by rw [hq, hU, hj3, Nat.add_sub_cancel]⟩
set_option maxHeartbeats 8000000 in
set_option maxRecDepth 100000 in
theorem part_d {n n0 lo hi pv : Nat} {x : Bool} (hv : ∀ x, (val x).one = true) (hC : CmpOk n0 S0 k val cf c) (hn : n0 + d.size + 4 ≤ n) (hp : lo ≤ pv) (hph : pv < hi) (hb : hi ≤ d.size) (hz : d.size ≤ 100000) (h : R S0 k val d T) :
    WO (dcall E (n + 1) 85 [.os k 0 d.size x, .int .i64 lo, .int .i64 hi, .int .i64 pv, cf] T) fun r T' => r = .tup [.int .i64 (Sort.partition (lt c) d lo hi pv).1, .bool (Sort.partition (lt c) d lo hi pv).2.1] ∧ R S0 k val (Sort.partition (lt c) d lo hi pv).2.2 T' ∧ (Sort.partition (lt c) d lo hi pv).2.2.size = d.size := by
  refine wo_dcall Tryd.func85 rfl (by decide) rfl 178 rfl (fun a hal ha => ?_)
  have h0 : a[0]? = some (.os k 0 d.size x) := ha 0 (by simp)
  have h1 : a[1]? = some (.int .i64 lo) := ha 1 (by simp)
  have h2 : a[2]? = some (.int .i64 hi) := ha 2 (by simp)
  have h3 : a[3]? = some (.int .i64 pv) := ha 3 (by simp)
  have h4 : a[4]? = some (cf) := ha 4 (by simp)
  clear ha
  have cv : ∀ y, (val y).cells = [val y] := fun y => cells_one (hv y)
  simp only [D.cells] at cv
  have ov := hv
  simp only [D.one] at ov
  obtain ⟨i0, hi0⟩ : ∃ i0, i0 = lo + 1 := ⟨_, rfl⟩
  obtain ⟨j0, hj0⟩ : ∃ j0, hi = j0 + 1 := ⟨hi - 1, by omega⟩
  have w1 : IntKind.i64.wrap ((lo : Int) + 1) = (i0 : Int) := by rw [wrap_ok (by omega) (by omega)]; omega
  have w2 : IntKind.i64.wrap ((hi : Int) - 1) = (j0 : Int) := by rw [wrap_ok (by omega) (by omega)]; omega
  obtain ⟨d1, hd1⟩ : ∃ d1, d1 = Sort.swp d lo pv := ⟨_, rfl⟩
  have hs1 : d1.size = d.size := by rw [hd1, swp_size]
  rw [wc_asc, wc_asc]
  refine wc_scut (fun a T' => a.length = 178 ∧ a[0]? = some (.os k 0 d.size x) ∧ a[1]? = some (.int .i64 lo) ∧ a[4]? = some (cf) ∧ a[12]? = some (.int .i64 i0) ∧ a[13]? = some (.int .i64 j0) ∧ R S0 k val d1 T') ?_ ?_
  · have hr := h
    have b1 : lo < d.size := by omega
    have b2 : pv < d.size := by omega
    have l1 := row_at (val := val) (d := d) (i := lo) (by omega)
    have l2 := row_at (val := val) (d := d) (i := pv) (by omega)
    have l3 := row_at (val := val) (d := d.setIfInBounds lo d[pv]!) (i := pv) (by simp; omega)
    have hkl := hr.lt
    simp (maxSteps := 1000000) (disch := omega) only [push_cast, ↓wc_seq, ↓wc_region, ↓wr_cons, ↓wr_nil, wo_some, opQ_eq, seqQ_normal, Nat.reduceAdd, Nat.reduceMul, Nat.reduceLT, Nat.reduceLeDiff, Nat.reduceEqDiff, ↓reduceIte, planIds, List.contains_cons, List.contains_nil, Nat.reduceBEq, setC, List.length_set, reduceCtorEq, eq_self, Int.natCast_nonneg, Int.toNat_natCast, Int.ofNat_lt, Nat.zero_add, planIds, List.contains_cons, List.contains_nil, Nat.reduceBEq, Nat.reduceMul, Nat.reduceAdd, ↓reduceIte, hal, h0, h1, h2, h3, h4, w1, w2, hr.row, sz_el, b1, b2, l1, l2, l3, hkl, cv, ov, row_set, List.set_set]
    rw [hd1]; exact hr.put
  clear hal h0 h1 h2 h3 h4 a
  clear h
  rintro a T1 ⟨hal, h0, h1, h4, h12, h13, hr⟩
  have hresi1 : ∃ r, r = Sort.scanUp (fun x => lt c x d1[lo]!) d1 j0 i0 := ⟨_, rfl⟩
  obtain ⟨i1, hdi1⟩ := hresi1
  refine wc_scut (fun a T' => T' = T1 ∧ a.length = 178 ∧ a[0]? = some (.os k 0 d.size x) ∧ a[1]? = some (.int .i64 lo) ∧ a[4]? = some (cf) ∧ a[12]? = some (.int .i64 i1) ∧ a[13]? = some (.int .i64 j0)) ?_ ?_
  · simp (maxSteps := 1000000) (disch := omega) only [push_cast, ↓wc_block, ↓wc_wl]
    refine wl_loop (fun r a T' => ∃ u : Nat, a.length = 178 ∧ a[0]? = some (.os k 0 d.size x) ∧ a[1]? = some (.int .i64 lo) ∧ a[4]? = some (cf) ∧ a[12]? = some (.int .i64 u) ∧ a[13]? = some (.int .i64 j0) ∧ T' = T1 ∧ (u = i0 + r) ∧ i1 = Sort.scanUp (fun x => lt c x d1[lo]!) d1 j0 u) d.size ?_ (by omega) ?_
    · refine ⟨i0, ?_⟩
      simp (maxSteps := 1000000) (disch := omega) only [push_cast, eq_self, Nat.add_zero, hal, h0, h1, h4, h12, h13]
      exact hdi1
    clear hal h0 h1 h4 h12 h13 a
    rintro r a T' hi' ⟨u, hal, h0, h1, h4, h12, h13, rfl, hu, hq⟩
    by_cases g : u ≤ j0
    case neg =>
      rw [Sort.scanUp, if_neg (by simp [g])] at hq
      simp (maxSteps := 1000000) (disch := omega) only [push_cast, ↓wc_seq, ↓wc_condL, ↓wc_region, ↓wr_cons, ↓wr_consgL, ↓wr_nil, ↓wo_pickL, ↓wc_exit, wo_some, opQ_eq, seqQ_normal, seqQ_exit, blockQ_exit, iterQ_exit, pickC_false, pickO_false, gstep_ft, Nat.reduceAdd, Nat.reduceMul, Nat.reduceLT, Nat.reduceEqDiff, ↓reduceIte, planIds, List.contains_cons, List.contains_nil, Nat.reduceBEq, setC, List.length_set, reduceCtorEq, eq_self, Nat.zero_add, planIds, List.contains_cons, List.contains_nil, Nat.reduceBEq, Nat.reduceMul, Nat.reduceAdd, ↓reduceIte, hal, h0, h1, h4, h12, h13, g, Int.ofNat_le, hq]
    have b1 : u < d.size := by omega
    rw [Sort.scanUp] at hq
    have b2 : lo < d.size := by omega
    have l1 := row_at (val := val) (d := d1) (i := u) (by omega)
    have l2 := row_at (val := val) (d := d1) (i := lo) (by omega)
    have cc := fun st => hC n (by omega) d1 T' hr st d1[u]! d1[lo]!
    by_cases e1 : c d1[u]! d1[lo]! < 0
    · rw [if_pos (by simp [lt, g, e1])] at hq
      simp (maxSteps := 1000000) (disch := omega) only [push_cast, ↓wc_seq, ↓wc_block, ↓wc_condL, ↓wc_region, ↓wr_cons, ↓wr_consgL, ↓wr_nil, ↓wo_pickL, ↓wc_skip, wo_some, opQ_eq, seqQ_normal, blockQ_normal, iterQ_normal, pickC_true, pickO_true, gstep_tt, Nat.reduceAdd, Nat.reduceMul, Nat.reduceLT, Nat.reduceEqDiff, ↓reduceIte, planIds, List.contains_cons, List.contains_nil, Nat.reduceBEq, setC, List.length_set, reduceCtorEq, eq_self, Int.natCast_nonneg, Int.toNat_natCast, Int.ofNat_lt, D.int.injEq, Option.some.injEq, Nat.zero_add, planIds, List.contains_cons, List.contains_nil, Nat.reduceBEq, Nat.reduceMul, Nat.reduceAdd, ↓reduceIte, hal, h0, h1, h4, h12, h13, g, Int.ofNat_le, hr.row, sz_el, b1, b2, l1, l2, ↓wo_callv, cc, e1, wrap_ok]
      exact ⟨by omega, u + 1, by simp only [Int.natCast_add, Int.natCast_one], by omega, hq⟩
    · rw [if_neg (by simp [lt, e1])] at hq
      simp (maxSteps := 1000000) (disch := omega) only [push_cast, ↓wc_seq, ↓wc_condL, ↓wc_region, ↓wr_cons, ↓wr_consgL, ↓wr_nil, ↓wo_pickL, ↓wc_exit, wo_some, opQ_eq, seqQ_normal, seqQ_exit, blockQ_exit, iterQ_exit, pickC_false, pickO_true, gstep_tt, Nat.reduceAdd, Nat.reduceMul, Nat.reduceLT, Nat.reduceEqDiff, ↓reduceIte, planIds, List.contains_cons, List.contains_nil, Nat.reduceBEq, setC, List.length_set, reduceCtorEq, eq_self, Int.natCast_nonneg, Int.toNat_natCast, Int.ofNat_lt, Nat.zero_add, planIds, List.contains_cons, List.contains_nil, Nat.reduceBEq, Nat.reduceMul, Nat.reduceAdd, ↓reduceIte, hal, h0, h1, h4, h12, h13, g, Int.ofNat_le, hr.row, sz_el, b1, b2, l1, l2, ↓wo_callv, cc, e1, hq]
  clear hal h0 h1 h4 h12 h13 a
  rintro a T2 ⟨rfl, hal, h0, h1, h4, h12, h13⟩
  have hi1 : i0 ≤ i1 := by rw [hdi1]; exact Sort.scanUp_ge _ _ _ _
  have hresj1 : ∃ r, r = Sort.scanDown (fun x => !lt c x d1[lo]!) d1 i1 j0 := ⟨_, rfl⟩
  obtain ⟨j1, hdj1⟩ := hresj1
  refine wc_scut (fun a T' => T' = T2 ∧ a.length = 178 ∧ a[0]? = some (.os k 0 d.size x) ∧ a[1]? = some (.int .i64 lo) ∧ a[4]? = some (cf) ∧ a[12]? = some (.int .i64 i1) ∧ a[13]? = some (.int .i64 j1)) ?_ ?_
  · simp (maxSteps := 1000000) (disch := omega) only [push_cast, ↓wc_block, ↓wc_wl]
    refine wl_loop (fun r a T' => ∃ u : Nat, a.length = 178 ∧ a[0]? = some (.os k 0 d.size x) ∧ a[1]? = some (.int .i64 lo) ∧ a[4]? = some (cf) ∧ a[12]? = some (.int .i64 i1) ∧ a[13]? = some (.int .i64 u) ∧ T' = T2 ∧ (u + r = j0) ∧ j1 = Sort.scanDown (fun x => !lt c x d1[lo]!) d1 i1 u) d.size ?_ (by omega) ?_
    · refine ⟨j0, ?_⟩
      simp (maxSteps := 1000000) (disch := omega) only [push_cast, eq_self, Nat.add_zero, hal, h0, h1, h4, h12, h13]
      exact hdj1
    clear hal h0 h1 h4 h12 h13 a
    rintro r a T' hi' ⟨u, hal, h0, h1, h4, h12, h13, rfl, hu, hq⟩
    cases u with
    | zero =>
      have g : ¬ i1 ≤ 0 := by omega
      have g' : ¬ (i1 : Int) ≤ ((0 : Nat) : Int) := by omega
      rw [Sort.scanDown] at hq
      simp only [Int.natCast_zero] at h13 g'
      simp (maxSteps := 1000000) (disch := omega) only [push_cast, ↓wc_seq, ↓wc_condL, ↓wc_region, ↓wr_cons, ↓wr_consgL, ↓wr_nil, ↓wo_pickL, ↓wc_exit, wo_some, opQ_eq, seqQ_normal, seqQ_exit, blockQ_exit, iterQ_exit, pickC_false, pickO_false, gstep_ft, Nat.reduceAdd, Nat.reduceMul, Nat.reduceLT, Nat.reduceEqDiff, ↓reduceIte, planIds, List.contains_cons, List.contains_nil, Nat.reduceBEq, setC, List.length_set, reduceCtorEq, eq_self, Nat.zero_add, planIds, List.contains_cons, List.contains_nil, Nat.reduceBEq, Nat.reduceMul, Nat.reduceAdd, ↓reduceIte, hal, h0, h1, h4, h12, h13, g', hq, Int.natCast_zero]
    | succ u' =>
    rw [Sort.scanDown] at hq
    obtain ⟨u, hu1⟩ : ∃ u, u = u' + 1 := ⟨_, rfl⟩
    rw [← hu1] at h13 hq hu
    have w0 : IntKind.i64.wrap ((u : Int) - 1) = (u' : Int) := by rw [wrap_ok (by omega) (by omega)]; omega
    by_cases g : i1 ≤ u
    case neg =>
      rw [if_neg (by simp [g])] at hq
      simp (maxSteps := 1000000) (disch := omega) only [push_cast, ↓wc_seq, ↓wc_condL, ↓wc_region, ↓wr_cons, ↓wr_consgL, ↓wr_nil, ↓wo_pickL, ↓wc_exit, wo_some, opQ_eq, seqQ_normal, seqQ_exit, blockQ_exit, iterQ_exit, pickC_false, pickO_false, gstep_ft, Nat.reduceAdd, Nat.reduceMul, Nat.reduceLT, Nat.reduceEqDiff, ↓reduceIte, planIds, List.contains_cons, List.contains_nil, Nat.reduceBEq, setC, List.length_set, reduceCtorEq, eq_self, Nat.zero_add, planIds, List.contains_cons, List.contains_nil, Nat.reduceBEq, Nat.reduceMul, Nat.reduceAdd, ↓reduceIte, hal, h0, h1, h4, h12, h13, g, Int.ofNat_le, hq]
    have b1 : u < d.size := by omega
    have b2 : lo < d.size := by omega
    have l1 := row_at (val := val) (d := d1) (i := u) (by omega)
    have l2 := row_at (val := val) (d := d1) (i := lo) (by omega)
    have cc := fun st => hC n (by omega) d1 T' hr st d1[u]! d1[lo]!
    by_cases e1 : c d1[u]! d1[lo]! < 0
    · rw [if_neg (by simp [lt, e1])] at hq
      simp (maxSteps := 1000000) (disch := omega) only [push_cast, ↓wc_seq, ↓wc_condL, ↓wc_region, ↓wr_cons, ↓wr_consgL, ↓wr_nil, ↓wo_pickL, ↓wc_exit, wo_some, opQ_eq, seqQ_normal, seqQ_exit, blockQ_exit, iterQ_exit, pickC_false, pickO_true, gstep_tt, Nat.reduceAdd, Nat.reduceMul, Nat.reduceLT, Nat.reduceEqDiff, ↓reduceIte, planIds, List.contains_cons, List.contains_nil, Nat.reduceBEq, setC, List.length_set, reduceCtorEq, eq_self, Int.natCast_nonneg, Int.toNat_natCast, Int.ofNat_lt, Nat.zero_add, planIds, List.contains_cons, List.contains_nil, Nat.reduceBEq, Nat.reduceMul, Nat.reduceAdd, ↓reduceIte, hal, h0, h1, h4, h12, h13, g, Int.ofNat_le, hr.row, sz_el, b1, b2, l1, l2, ↓wo_callv, cc, e1, hq]
    · rw [if_pos (by simp [lt, g, e1])] at hq
      simp (maxSteps := 1000000) (disch := omega) only [push_cast, ↓wc_seq, ↓wc_block, ↓wc_condL, ↓wc_region, ↓wr_cons, ↓wr_consgL, ↓wr_nil, ↓wo_pickL, ↓wc_skip, wo_some, opQ_eq, seqQ_normal, blockQ_normal, iterQ_normal, pickC_true, pickO_true, gstep_tt, Nat.reduceAdd, Nat.reduceMul, Nat.reduceLT, Nat.reduceEqDiff, ↓reduceIte, planIds, List.contains_cons, List.contains_nil, Nat.reduceBEq, setC, List.length_set, reduceCtorEq, eq_self, Int.natCast_nonneg, Int.toNat_natCast, Int.ofNat_lt, D.int.injEq, Option.some.injEq, Nat.zero_add, planIds, List.contains_cons, List.contains_nil, Nat.reduceBEq, Nat.reduceMul, Nat.reduceAdd, ↓reduceIte, hal, h0, h1, h4, h12, h13, g, Int.ofNat_le, hr.row, sz_el, b1, b2, l1, l2, ↓wo_callv, cc, e1, w0]
      exact ⟨by omega, u', rfl, by omega, hq⟩
  clear hal h0 h1 h4 h12 h13 a
  rintro a T3 ⟨rfl, hal, h0, h1, h4, h12, h13⟩
  have hj1 : j1 ≤ j0 := by rw [hdj1]; exact Sort.scanDown_le _ _ _ _
  have hU : Sort.partition (lt c) d lo hi pv = if j1 < i1 then (j1, true, Sort.swp d1 j1 lo) else ((Sort.partLoop (lt c) lo (i1 + 1) (j1 - 1) (Sort.swp d1 i1 j1)).1, false, Sort.swp (Sort.partLoop (lt c) lo (i1 + 1) (j1 - 1) (Sort.swp d1 i1 j1)).2 (Sort.partLoop (lt c) lo (i1 + 1) (j1 - 1) (Sort.swp d1 i1 j1)).1 lo) := by
    unfold Sort.partition
    rw [hj0, Nat.add_sub_cancel, ← hd1, ← hi0]
    simp only [← hdi1, ← hdj1]
  by_cases g : j1 < i1
  · rw [if_pos g] at hU
    rw [hU]
    have b1 : j1 < d.size := by omega
    have b2 : lo < d.size := by omega
    have l1 := row_at (val := val) (d := d1) (i := j1) (by omega)
    have l2 := row_at (val := val) (d := d1) (i := lo) (by omega)
    have l3 := row_at (val := val) (d := d1.setIfInBounds j1 d1[lo]!) (i := lo) (by simp; omega)
    have hkl := hr.lt
    simp (maxSteps := 1000000) (disch := omega) only [push_cast, ↓wc_seq, ↓wc_condL, ↓wc_region, ↓wr_cons, ↓wr_nil, ↓wc_ret, wo_some, opQ_eq, seqQ_normal, seqQ_ret, retQ_ret, pickC_true, Nat.reduceAdd, Nat.reduceMul, Nat.reduceLT, Nat.reduceLeDiff, Nat.reduceEqDiff, ↓reduceIte, planIds, List.contains_cons, List.contains_nil, Nat.reduceBEq, setC, List.length_set, reduceCtorEq, eq_self, Int.natCast_nonneg, Int.toNat_natCast, Int.ofNat_lt, Nat.zero_add, gt_iff_lt, planIds, List.contains_cons, List.contains_nil, Nat.reduceBEq, Nat.reduceMul, Nat.reduceAdd, ↓reduceIte, hal, h0, h1, h12, h13, gt_iff_lt, g, hr.row, sz_el, b1, b2, l1, l2, l3, hkl, cv, ov, row_set, List.set_set, Tryd.f85]
    exact ⟨hr.put, by rw [swp_size]; exact hs1⟩
  rw [if_neg g] at hU
  rw [hU]
  clear hU
  obtain ⟨j2, hj2⟩ : ∃ j2, j1 = j2 + 1 := ⟨j1 - 1, by omega⟩
  obtain ⟨i2, hi2⟩ : ∃ i2, i2 = i1 + 1 := ⟨_, rfl⟩
  rw [← hi2, show j1 - 1 = j2 by omega]
  have w3 : IntKind.i64.wrap ((j1 : Int) - 1) = (j2 : Int) := by rw [wrap_ok (by omega) (by omega)]; omega
  have w4 : IntKind.i64.wrap ((i1 : Int) + 1) = (i2 : Int) := by rw [wrap_ok (by omega) (by omega)]; omega
  obtain ⟨d2, hd2⟩ : ∃ d2, d2 = Sort.swp d1 i1 j1 := ⟨_, rfl⟩
  rw [← hd2]
  have hs2 : d2.size = d.size := by rw [hd2, swp_size]; exact hs1
  rw [wc_asc, wc_asc, wc_asc]
  refine wc_scut (fun a T' => a.length = 178 ∧ a[0]? = some (.os k 0 d.size x) ∧ a[1]? = some (.int .i64 lo) ∧ a[4]? = some (cf) ∧ a[12]? = some (.int .i64 i2) ∧ a[13]? = some (.int .i64 j2) ∧ R S0 k val d2 T') ?_ ?_
  · 
    have b1 : i1 < d.size := by omega
    have b2 : j1 < d.size := by omega
    have l1 := row_at (val := val) (d := d1) (i := i1) (by omega)
    have l2 := row_at (val := val) (d := d1) (i := j1) (by omega)
    have l3 := row_at (val := val) (d := d1.setIfInBounds i1 d1[j1]!) (i := j1) (by simp; omega)
    have hkl := hr.lt
    simp (maxSteps := 1000000) (disch := omega) only [push_cast, ↓wc_seq, ↓wc_condL, ↓wc_region, ↓wr_cons, ↓wr_nil, ↓wc_skip, wo_some, opQ_eq, seqQ_normal, pickC_false, Nat.reduceAdd, Nat.reduceMul, Nat.reduceLT, Nat.reduceLeDiff, Nat.reduceEqDiff, ↓reduceIte, planIds, List.contains_cons, List.contains_nil, Nat.reduceBEq, setC, List.length_set, reduceCtorEq, eq_self, Int.natCast_nonneg, Int.toNat_natCast, Int.ofNat_lt, Nat.zero_add, gt_iff_lt, planIds, List.contains_cons, List.contains_nil, Nat.reduceBEq, Nat.reduceMul, Nat.reduceAdd, ↓reduceIte, hal, h0, h1, h4, h12, h13, gt_iff_lt, g, w3, w4, hr.row, sz_el, b1, b2, l1, l2, l3, hkl, cv, ov, row_set, List.set_set]
    rw [hd2]; exact hr.put
  clear hal h0 h1 h4 h12 h13 a
  clear hr T3
  rintro a T4 ⟨hal, h0, h1, h4, h12, h13, hr⟩
  refine wc_scut (fun a T' => ∃ r : Nat × Array α, a.length = 178 ∧ a[0]? = some (.os k 0 d.size x) ∧ a[1]? = some (.int .i64 lo) ∧ a[13]? = some (.int .i64 r.1) ∧ R S0 k val r.2 T' ∧ r.2.size = d.size ∧ r.1 < d.size ∧ Sort.partLoop (lt c) lo i2 j2 d2 = r) ?_ ?_
  case refine_2 =>
    clear hal h0 h1 h4 h12 h13 hr a
    rintro a T' ⟨⟨p, d3⟩, hal, h0, h1, h13, hr, hs, hpl, hq⟩
    rw [hq]
    simp only at hr hs hpl h13
    have b1 : p < d.size := by omega
    have b2 : lo < d.size := by omega
    have l1 := row_at (val := val) (d := d3) (i := p) (by omega)
    have l2 := row_at (val := val) (d := d3) (i := lo) (by omega)
    have l3 := row_at (val := val) (d := d3.setIfInBounds p d3[lo]!) (i := lo) (by simp; omega)
    have hkl := hr.lt
    simp (maxSteps := 1000000) (disch := omega) only [push_cast, ↓wc_seq, ↓wc_region, ↓wr_cons, ↓wr_nil, ↓wc_ret, wo_some, opQ_eq, seqQ_normal, retQ_ret, Nat.reduceAdd, Nat.reduceMul, Nat.reduceLT, Nat.reduceLeDiff, Nat.reduceEqDiff, ↓reduceIte, planIds, List.contains_cons, List.contains_nil, Nat.reduceBEq, setC, List.length_set, reduceCtorEq, eq_self, Int.natCast_nonneg, Int.toNat_natCast, Int.ofNat_lt, Nat.zero_add, planIds, List.contains_cons, List.contains_nil, Nat.reduceBEq, Nat.reduceMul, Nat.reduceAdd, ↓reduceIte, hal, h0, h1, h13, hr.row, sz_el, b1, b2, l1, l2, l3, hkl, cv, ov, row_set, List.set_set, Tryd.f85]
    exact ⟨hr.put, by rw [swp_size]; exact hs⟩
  simp (maxSteps := 1000000) (disch := omega) only [push_cast, ↓wc_block, ↓wc_wl]
  refine wl_loop (fun r a T' => ∃ (d3 : Array α) (i j : Nat), a.length = 178 ∧ a[0]? = some (.os k 0 d.size x) ∧ a[1]? = some (.int .i64 lo) ∧ a[4]? = some (cf) ∧ a[12]? = some (.int .i64 i) ∧ a[13]? = some (.int .i64 j) ∧ (i2 + r ≤ i ∧ j ≤ j2) ∧ d3.size = d.size ∧ R S0 k val d3 T' ∧ Sort.partLoop (lt c) lo i2 j2 d2 = Sort.partLoop (lt c) lo i j d3) d.size ?_ (by omega) ?_
  · refine ⟨d2, i2, j2, ?_⟩
    simp (maxSteps := 1000000) (disch := omega) only [push_cast, eq_self, Nat.add_zero, hal, h0, h1, h4, h12, h13]
    exact ⟨by omega, hs2, hr⟩
  clear hal h0 h1 h4 h12 h13 a
  clear hr T4
  rintro rr a T1 hi1 ⟨d3, i, j, hal, h0, h1, h4, h12, h13, ⟨hri, hjj⟩, hs3, hr, hq⟩
  rw [wc_block]
  have hresi3 : ∃ r, r = Sort.scanUp (fun x => lt c x d3[lo]!) d3 j i := ⟨_, rfl⟩
  obtain ⟨i3, hdi3⟩ := hresi3
  refine wc_scut (fun a T' => T' = T1 ∧ a.length = 178 ∧ a[0]? = some (.os k 0 d.size x) ∧ a[1]? = some (.int .i64 lo) ∧ a[4]? = some (cf) ∧ a[12]? = some (.int .i64 i3) ∧ a[13]? = some (.int .i64 j)) ?_ ?_
  · simp (maxSteps := 1000000) (disch := omega) only [push_cast, ↓wc_block, ↓wc_wl]
    refine wl_loop (fun r a T' => ∃ u : Nat, a.length = 178 ∧ a[0]? = some (.os k 0 d.size x) ∧ a[1]? = some (.int .i64 lo) ∧ a[4]? = some (cf) ∧ a[12]? = some (.int .i64 u) ∧ a[13]? = some (.int .i64 j) ∧ T' = T1 ∧ (u = i + r) ∧ i3 = Sort.scanUp (fun x => lt c x d3[lo]!) d3 j u) d.size ?_ (by omega) ?_
    · refine ⟨i, ?_⟩
      simp (maxSteps := 1000000) (disch := omega) only [push_cast, eq_self, Nat.add_zero, hal, h0, h1, h4, h12, h13]
      exact hdi3
    clear hal h0 h1 h4 h12 h13 a
    rintro r a T' hi' ⟨u, hal, h0, h1, h4, h12, h13, rfl, hu, hq⟩
    by_cases g : u ≤ j
    case neg =>
      rw [Sort.scanUp, if_neg (by simp [g])] at hq
      simp (maxSteps := 1000000) (disch := omega) only [push_cast, ↓wc_seq, ↓wc_condL, ↓wc_region, ↓wr_cons, ↓wr_consgL, ↓wr_nil, ↓wo_pickL, ↓wc_exit, wo_some, opQ_eq, seqQ_normal, seqQ_exit, blockQ_exit, iterQ_exit, pickC_false, pickO_false, gstep_ft, Nat.reduceAdd, Nat.reduceMul, Nat.reduceLT, Nat.reduceEqDiff, ↓reduceIte, planIds, List.contains_cons, List.contains_nil, Nat.reduceBEq, setC, List.length_set, reduceCtorEq, eq_self, Nat.zero_add, planIds, List.contains_cons, List.contains_nil, Nat.reduceBEq, Nat.reduceMul, Nat.reduceAdd, ↓reduceIte, hal, h0, h1, h4, h12, h13, g, Int.ofNat_le, hq]
    have b1 : u < d.size := by omega
    rw [Sort.scanUp] at hq
    have b2 : lo < d.size := by omega
    have l1 := row_at (val := val) (d := d3) (i := u) (by omega)
    have l2 := row_at (val := val) (d := d3) (i := lo) (by omega)
    have cc := fun st => hC n (by omega) d3 T' hr st d3[u]! d3[lo]!
    by_cases e1 : c d3[u]! d3[lo]! < 0
    · rw [if_pos (by simp [lt, g, e1])] at hq
      simp (maxSteps := 1000000) (disch := omega) only [push_cast, ↓wc_seq, ↓wc_block, ↓wc_condL, ↓wc_region, ↓wr_cons, ↓wr_consgL, ↓wr_nil, ↓wo_pickL, ↓wc_skip, wo_some, opQ_eq, seqQ_normal, blockQ_normal, iterQ_normal, pickC_true, pickO_true, gstep_tt, Nat.reduceAdd, Nat.reduceMul, Nat.reduceLT, Nat.reduceEqDiff, ↓reduceIte, planIds, List.contains_cons, List.contains_nil, Nat.reduceBEq, setC, List.length_set, reduceCtorEq, eq_self, Int.natCast_nonneg, Int.toNat_natCast, Int.ofNat_lt, D.int.injEq, Option.some.injEq, Nat.zero_add, planIds, List.contains_cons, List.contains_nil, Nat.reduceBEq, Nat.reduceMul, Nat.reduceAdd, ↓reduceIte, hal, h0, h1, h4, h12, h13, g, Int.ofNat_le, hr.row, sz_el, b1, b2, l1, l2, ↓wo_callv, cc, e1, wrap_ok]
      exact ⟨by omega, u + 1, by simp only [Int.natCast_add, Int.natCast_one], by omega, hq⟩
    · rw [if_neg (by simp [lt, e1])] at hq
      simp (maxSteps := 1000000) (disch := omega) only [push_cast, ↓wc_seq, ↓wc_condL, ↓wc_region, ↓wr_cons, ↓wr_consgL, ↓wr_nil, ↓wo_pickL, ↓wc_exit, wo_some, opQ_eq, seqQ_normal, seqQ_exit, blockQ_exit, iterQ_exit, pickC_false, pickO_true, gstep_tt, Nat.reduceAdd, Nat.reduceMul, Nat.reduceLT, Nat.reduceEqDiff, ↓reduceIte, planIds, List.contains_cons, List.contains_nil, Nat.reduceBEq, setC, List.length_set, reduceCtorEq, eq_self, Int.natCast_nonneg, Int.toNat_natCast, Int.ofNat_lt, Nat.zero_add, planIds, List.contains_cons, List.contains_nil, Nat.reduceBEq, Nat.reduceMul, Nat.reduceAdd, ↓reduceIte, hal, h0, h1, h4, h12, h13, g, Int.ofNat_le, hr.row, sz_el, b1, b2, l1, l2, ↓wo_callv, cc, e1, hq]
  clear hal h0 h1 h4 h12 h13 a
  rintro a T2 ⟨rfl, hal, h0, h1, h4, h12, h13⟩
  have hi3 : i ≤ i3 := by rw [hdi3]; exact Sort.scanUp_ge _ _ _ _
  have hresj3 : ∃ r, r = Sort.scanDown (fun x => !lt c x d3[lo]!) d3 i3 j := ⟨_, rfl⟩
  obtain ⟨j3, hdj3⟩ := hresj3
  refine wc_scut (fun a T' => T' = T2 ∧ a.length = 178 ∧ a[0]? = some (.os k 0 d.size x) ∧ a[1]? = some (.int .i64 lo) ∧ a[4]? = some (cf) ∧ a[12]? = some (.int .i64 i3) ∧ a[13]? = some (.int .i64 j3)) ?_ ?_
  · simp (maxSteps := 1000000) (disch := omega) only [push_cast, ↓wc_block, ↓wc_wl]
    refine wl_loop (fun r a T' => ∃ u : Nat, a.length = 178 ∧ a[0]? = some (.os k 0 d.size x) ∧ a[1]? = some (.int .i64 lo) ∧ a[4]? = some (cf) ∧ a[12]? = some (.int .i64 i3) ∧ a[13]? = some (.int .i64 u) ∧ T' = T2 ∧ (u + r = j) ∧ j3 = Sort.scanDown (fun x => !lt c x d3[lo]!) d3 i3 u) d.size ?_ (by omega) ?_
    · refine ⟨j, ?_⟩
      simp (maxSteps := 1000000) (disch := omega) only [push_cast, eq_self, Nat.add_zero, hal, h0, h1, h4, h12, h13]
      exact hdj3
    clear hal h0 h1 h4 h12 h13 a
    rintro r a T' hi' ⟨u, hal, h0, h1, h4, h12, h13, rfl, hu, hq⟩
    cases u with
    | zero =>
      have g : ¬ i3 ≤ 0 := by omega
      have g' : ¬ (i3 : Int) ≤ ((0 : Nat) : Int) := by omega
      rw [Sort.scanDown] at hq
      simp only [Int.natCast_zero] at h13 g'
      simp (maxSteps := 1000000) (disch := omega) only [push_cast, ↓wc_seq, ↓wc_condL, ↓wc_region, ↓wr_cons, ↓wr_consgL, ↓wr_nil, ↓wo_pickL, ↓wc_exit, wo_some, opQ_eq, seqQ_normal, seqQ_exit, blockQ_exit, iterQ_exit, pickC_false, pickO_false, gstep_ft, Nat.reduceAdd, Nat.reduceMul, Nat.reduceLT, Nat.reduceEqDiff, ↓reduceIte, planIds, List.contains_cons, List.contains_nil, Nat.reduceBEq, setC, List.length_set, reduceCtorEq, eq_self, Nat.zero_add, planIds, List.contains_cons, List.contains_nil, Nat.reduceBEq, Nat.reduceMul, Nat.reduceAdd, ↓reduceIte, hal, h0, h1, h4, h12, h13, g', hq, Int.natCast_zero]
    | succ u' =>
    rw [Sort.scanDown] at hq
    obtain ⟨u, hu1⟩ : ∃ u, u = u' + 1 := ⟨_, rfl⟩
    rw [← hu1] at h13 hq hu
    have w0 : IntKind.i64.wrap ((u : Int) - 1) = (u' : Int) := by rw [wrap_ok (by omega) (by omega)]; omega
    by_cases g : i3 ≤ u
    case neg =>
      rw [if_neg (by simp [g])] at hq
      simp (maxSteps := 1000000) (disch := omega) only [push_cast, ↓wc_seq, ↓wc_condL, ↓wc_region, ↓wr_cons, ↓wr_consgL, ↓wr_nil, ↓wo_pickL, ↓wc_exit, wo_some, opQ_eq, seqQ_normal, seqQ_exit, blockQ_exit, iterQ_exit, pickC_false, pickO_false, gstep_ft, Nat.reduceAdd, Nat.reduceMul, Nat.reduceLT, Nat.reduceEqDiff, ↓reduceIte, planIds, List.contains_cons, List.contains_nil, Nat.reduceBEq, setC, List.length_set, reduceCtorEq, eq_self, Nat.zero_add, planIds, List.contains_cons, List.contains_nil, Nat.reduceBEq, Nat.reduceMul, Nat.reduceAdd, ↓reduceIte, hal, h0, h1, h4, h12, h13, g, Int.ofNat_le, hq]
    have b1 : u < d.size := by omega
    have b2 : lo < d.size := by omega
    have l1 := row_at (val := val) (d := d3) (i := u) (by omega)
    have l2 := row_at (val := val) (d := d3) (i := lo) (by omega)
    have cc := fun st => hC n (by omega) d3 T' hr st d3[u]! d3[lo]!
    by_cases e1 : c d3[u]! d3[lo]! < 0
    · rw [if_neg (by simp [lt, e1])] at hq
      simp (maxSteps := 1000000) (disch := omega) only [push_cast, ↓wc_seq, ↓wc_condL, ↓wc_region, ↓wr_cons, ↓wr_consgL, ↓wr_nil, ↓wo_pickL, ↓wc_exit, wo_some, opQ_eq, seqQ_normal, seqQ_exit, blockQ_exit, iterQ_exit, pickC_false, pickO_true, gstep_tt, Nat.reduceAdd, Nat.reduceMul, Nat.reduceLT, Nat.reduceEqDiff, ↓reduceIte, planIds, List.contains_cons, List.contains_nil, Nat.reduceBEq, setC, List.length_set, reduceCtorEq, eq_self, Int.natCast_nonneg, Int.toNat_natCast, Int.ofNat_lt, Nat.zero_add, planIds, List.contains_cons, List.contains_nil, Nat.reduceBEq, Nat.reduceMul, Nat.reduceAdd, ↓reduceIte, hal, h0, h1, h4, h12, h13, g, Int.ofNat_le, hr.row, sz_el, b1, b2, l1, l2, ↓wo_callv, cc, e1, hq]
    · rw [if_pos (by simp [lt, g, e1])] at hq
      simp (maxSteps := 1000000) (disch := omega) only [push_cast, ↓wc_seq, ↓wc_block, ↓wc_condL, ↓wc_region, ↓wr_cons, ↓wr_consgL, ↓wr_nil, ↓wo_pickL, ↓wc_skip, wo_some, opQ_eq, seqQ_normal, blockQ_normal, iterQ_normal, pickC_true, pickO_true, gstep_tt, Nat.reduceAdd, Nat.reduceMul, Nat.reduceLT, Nat.reduceEqDiff, ↓reduceIte, planIds, List.contains_cons, List.contains_nil, Nat.reduceBEq, setC, List.length_set, reduceCtorEq, eq_self, Int.natCast_nonneg, Int.toNat_natCast, Int.ofNat_lt, D.int.injEq, Option.some.injEq, Nat.zero_add, planIds, List.contains_cons, List.contains_nil, Nat.reduceBEq, Nat.reduceMul, Nat.reduceAdd, ↓reduceIte, hal, h0, h1, h4, h12, h13, g, Int.ofNat_le, hr.row, sz_el, b1, b2, l1, l2, ↓wo_callv, cc, e1, w0]
      exact ⟨by omega, u', rfl, by omega, hq⟩
  clear hal h0 h1 h4 h12 h13 a
  rintro a T3 ⟨rfl, hal, h0, h1, h4, h12, h13⟩
  have hj3 : j3 ≤ j := by rw [hdj3]; exact Sort.scanDown_le _ _ _ _
  have hU := Sort.partLoop_eq (lt := lt c) lo i j d3
  simp only [← hdi3, ← hdj3] at hU
  by_cases g : j3 < i3
  · rw [if_pos g] at hU
    simp (maxSteps := 1000000) (disch := omega) only [push_cast, ↓wc_seq, ↓wc_condL, ↓wc_region, ↓wr_cons, ↓wr_nil, ↓wc_exit, wo_some, opQ_eq, seqQ_normal, seqQ_exit, blockQ_exit, iterQ_exit, pickC_true, Nat.reduceAdd, Nat.reduceMul, Nat.reduceLT, Nat.reduceEqDiff, ↓reduceIte, planIds, List.contains_cons, List.contains_nil, Nat.reduceBEq, setC, List.length_set, reduceCtorEq, eq_self, Int.ofNat_lt, D.int.injEq, Option.some.injEq, Nat.zero_add, gt_iff_lt, planIds, List.contains_cons, List.contains_nil, Nat.reduceBEq, Nat.reduceMul, Nat.reduceAdd, ↓reduceIte, hal, h0, h1, h12, h13, gt_iff_lt, g]
    exact ⟨(j3, d3), rfl, hr, hs3, by show j3 < d.size; omega, by rw [hq, hU]⟩
  rw [if_neg g] at hU
  obtain ⟨j4, hj4⟩ : ∃ j4, j3 = j4 + 1 := ⟨j3 - 1, by omega⟩
  have w5 : IntKind.i64.wrap ((j3 : Int) - 1) = (j4 : Int) := by rw [wrap_ok (by omega) (by omega)]; omega
  have b1 : i3 < d.size := by omega
  have b2 : j3 < d.size := by omega
  have l1 := row_at (val := val) (d := d3) (i := i3) (by omega)
  have l2 := row_at (val := val) (d := d3) (i := j3) (by omega)
  have l3 := row_at (val := val) (d := d3.setIfInBounds i3 d3[j3]!) (i := j3) (by simp; omega)
  have hkl := hr.lt
  simp (maxSteps := 1000000) (disch := omega) only [push_cast, ↓wc_seq, ↓wc_condL, ↓wc_region, ↓wr_cons, ↓wr_nil, ↓wc_skip, wo_some, opQ_eq, seqQ_normal, blockQ_normal, iterQ_normal, pickC_false, Nat.reduceAdd, Nat.reduceMul, Nat.reduceLT, Nat.reduceLeDiff, Nat.reduceEqDiff, ↓reduceIte, planIds, List.contains_cons, List.contains_nil, Nat.reduceBEq, setC, List.length_set, reduceCtorEq, eq_self, Int.natCast_nonneg, Int.toNat_natCast, Int.ofNat_lt, D.int.injEq, Option.some.injEq, Nat.zero_add, gt_iff_lt, planIds, List.contains_cons, List.contains_nil, Nat.reduceBEq, Nat.reduceMul, Nat.reduceAdd, ↓reduceIte, hal, h0, h1, h4, h12, h13, gt_iff_lt, g, w5, wrap_ok, hr.row, sz_el, b1, b2, l1, l2, l3, hkl, cv, ov, row_set, List.set_set]
  exact ⟨by omega, Sort.swp d3 i3 j3, i3 + 1, j4, by simp only [Int.natCast_add, Int.natCast_one], rfl, ⟨by omega, by omega⟩, by rw [swp_size]; exact hs3, hr.put, by rw [hq, hU, hj4, Nat.add_sub_cancel]⟩
end Srt

namespace Srt
variable {α : Type} {S0 T : List Ob} {k : Nat} {val : α → D} {d : Array α} {cf : D} {c : α → α → Int}
variable [Inhabited α]
theorem shiftDown_size {p : α → α → Bool} : ∀ {j : Nat} {d : Array α}, (Sort.shiftDown p j d).size = d.size
  | 0, d => rfl
  | j + 1, d => by
    rw [Sort.shiftDown]
    split
    · rfl
    · rw [shiftDown_size, swp_size]
theorem shiftUp_size {p : α → α → Bool} {b : Nat} : ∀ {m j : Nat} {d : Array α}, b - j = m → (Sort.shiftUp p b j d).size = d.size := by
  intro m
  induction m with
  | zero => intro j d h; rw [Sort.shiftUp, if_neg (by omega)]
  | succ m ih =>
    intro j d h
    rw [Sort.shiftUp]
    split
    · split
      · rfl
      · rw [ih (by omega), swp_size]
    · rfl
theorem scanSorted_ge {p : α → α → Bool} {d : Array α} {b : Nat} : ∀ {m i : Nat}, b - i = m → i ≤ Sort.scanSorted p d b i := by
  intro m
  induction m with
  | zero => intro i h; rw [Sort.scanSorted]; split
            · simp_all; omega
            · exact Nat.le_refl _
  | succ m ih =>
    intro i h
    rw [Sort.scanSorted]
    split
    · exact Nat.le_trans (Nat.le_succ i) (ih (by omega))
    · exact Nat.le_refl _
theorem scanSorted_le {p : α → α → Bool} {d : Array α} {b : Nat} : ∀ {m i : Nat}, b - i = m → i ≤ b → Sort.scanSorted p d b i ≤ b := by
  intro m
  induction m with
  | zero => intro i h hb; rw [Sort.scanSorted]; split
            · simp_all; omega
            · exact hb
  | succ m ih =>
    intro i h hb
    rw [Sort.scanSorted]
    split
    · exact ih (by omega) (by omega)
    · exact hb
set_option maxHeartbeats 8000000 in
set_option maxRecDepth 100000 in
theorem pIns_d {n n0 lo hi : Nat} {x : Bool} (hv : ∀ x, (val x).one = true) (hC : CmpOk n0 S0 k val cf c) (hn : n0 + d.size + 8 ≤ n) (hab : lo < hi) (hb : hi ≤ d.size) (hz : d.size ≤ 100000) (h : R S0 k val d T) :
    WO (dcall E (n + 1) 83 [.os k 0 d.size x, .int .i64 lo, .int .i64 hi, cf] T) fun r T' => r = .bool (Sort.partialInsertionSort (lt c) d lo hi).2 ∧ R S0 k val (Sort.partialInsertionSort (lt c) d lo hi).1 T' ∧ (Sort.partialInsertionSort (lt c) d lo hi).1.size = d.size := by
  refine wo_dcall Tryd.func83 rfl (by decide) rfl 141 rfl (fun a hal ha => ?_)
  have h0 : a[0]? = some (.os k 0 d.size x) := ha 0 (by simp)
  have h1 : a[1]? = some (.int .i64 lo) := ha 1 (by simp)
  have h2 : a[2]? = some (.int .i64 hi) := ha 2 (by simp)
  have h3 : a[3]? = some (cf) := ha 3 (by simp)
  clear ha
  have cv : ∀ y, (val y).cells = [val y] := fun y => cells_one (hv y)
  simp only [D.cells] at cv
  have ov := hv
  simp only [D.one] at ov
  unfold Sort.partialInsertionSort
  simp (maxSteps := 1000000) (disch := omega) only [push_cast, ↓wc_seq, ↓wc_block, ↓wc_region, ↓wr_cons, ↓wr_nil, ↓wc_wl, wo_some, opQ_eq, seqQ_normal, Nat.reduceAdd, Nat.reduceMul, Nat.reduceLT, Nat.reduceEqDiff, ↓reduceIte, planIds, List.contains_cons, List.contains_nil, Nat.reduceBEq, setC, List.length_set, eq_self, Nat.zero_add, planIds, List.contains_cons, List.contains_nil, Nat.reduceBEq, Nat.reduceMul, Nat.reduceAdd, ↓reduceIte, hal, h1, wrap_ok]
  refine wl_loop (fun r a T' => ∃ (d1 : Array α) (i : Nat), a.length = 141 ∧ a[0]? = some (.os k 0 d.size x) ∧ a[1]? = some (.int .i64 lo) ∧ a[2]? = some (.int .i64 hi) ∧ a[3]? = some (cf) ∧ a[9]? = some (.int .i64 i) ∧ a[10]? = some (.int .i64 r) ∧ (lo + 1 ≤ i ∧ i ≤ hi ∧ r ≤ 5) ∧ d1.size = d.size ∧ R S0 k val d1 T' ∧ Sort.partialIns (lt c) lo hi 5 (lo + 1) d = Sort.partialIns (lt c) lo hi (5 - r) i d1) 5 ?_ (by omega) ?_
  · refine ⟨d, lo + 1, ?_⟩
    simp (maxSteps := 1000000) (disch := omega) only [push_cast, Nat.reduceSub, Nat.reduceLT, Nat.reduceLeDiff, Nat.reduceEqDiff, ↓reduceIte, setC, List.length_set, reduceCtorEq, eq_self, ↓reduceIte, hal, h0, h1, h2, h3, Int.natCast_add, Int.natCast_one, Int.natCast_zero]
    exact ⟨by omega, h⟩
  clear hal h0 h1 h2 h3 a
  clear h
  rintro r a T1 hr5 ⟨d1, i, hal, h0, h1, h2, h3, h9, h10, ⟨hli, hih, -⟩, hs1, hr, hq⟩
  rcases Nat.lt_or_eq_of_le hr5 with hlt | rfl
  case inr =>
    rw [Nat.sub_self, Sort.partialIns] at hq
    have g : ¬ (((5 : Nat) : Int) < 5) := by omega
    simp (maxSteps := 1000000) (disch := omega) only [push_cast, ↓wc_seq, ↓wc_condL, ↓wc_region, ↓wr_cons, ↓wr_nil, ↓wc_exit, ↓wc_ret, wo_some, opQ_eq, seqQ_normal, seqQ_exit, blockQ_exit, iterQ_exit, retQ_ret, pickC_false, Nat.reduceAdd, Nat.reduceMul, Nat.reduceLT, Int.reduceAdd, Int.reduceLT, ↓reduceIte, planIds, List.contains_cons, List.contains_nil, Nat.reduceBEq, setC, List.length_set, eq_self, Nat.zero_add, planIds, List.contains_cons, List.contains_nil, Nat.reduceBEq, Nat.reduceMul, Nat.reduceAdd, ↓reduceIte, hal, h10, Tryd.f83]
    rw [hq]; exact ⟨rfl, hr, hs1⟩
  have g5 : ((r : Int) < 5) := by omega
  rw [show 5 - r = (5 - (r + 1)) + 1 by omega, Sort.partialIns_succ (lt := lt c) lo hi (5 - (r + 1)) i d1] at hq
  have hres : ∃ e, e = Sort.scanSorted (lt c) d1 hi i := ⟨_, rfl⟩
  obtain ⟨e, he⟩ := hres
  have hie : i ≤ e := by rw [he]; exact scanSorted_ge rfl
  have heh : e ≤ hi := by rw [he]; exact scanSorted_le rfl hih
  simp only [← he] at hq
  refine wc_scut (fun a T' => T' = T1 ∧ a.length = 141 ∧ a[0]? = some (.os k 0 d.size x) ∧ a[1]? = some (.int .i64 lo) ∧ a[2]? = some (.int .i64 hi) ∧ a[3]? = some (cf) ∧ a[9]? = some (.int .i64 i) ∧ a[10]? = some (.int .i64 r)) ?_ ?_
  · simp (maxSteps := 1000000) (disch := omega) only [push_cast, ↓wc_seq, ↓wc_condL, ↓wc_region, ↓wr_cons, ↓wr_nil, ↓wc_skip, wo_some, opQ_eq, seqQ_normal, pickC_true, Nat.reduceAdd, Nat.reduceMul, Nat.reduceLT, Nat.reduceEqDiff, ↓reduceIte, planIds, List.contains_cons, List.contains_nil, Nat.reduceBEq, setC, List.length_set, reduceCtorEq, eq_self, Nat.zero_add, planIds, List.contains_cons, List.contains_nil, Nat.reduceBEq, Nat.reduceMul, Nat.reduceAdd, ↓reduceIte, hal, h0, h1, h2, h3, h9, h10, g5]
  clear hal h0 h1 h2 h3 h9 h10 a
  rintro a T' ⟨rfl, hal, h0, h1, h2, h3, h9, h10⟩
  rw [wc_seq, wc_block]
  -- the scan
  refine wc_scut (fun a T2 => T2 = T' ∧ a.length = 141 ∧ a[0]? = some (.os k 0 d.size x) ∧ a[1]? = some (.int .i64 lo) ∧ a[2]? = some (.int .i64 hi) ∧ a[3]? = some (cf) ∧ a[9]? = some (.int .i64 e) ∧ a[10]? = some (.int .i64 r)) ?_ ?_
  · simp (maxSteps := 1000000) (disch := omega) only [push_cast, ↓wc_block, ↓wc_wl]
    refine wl_loop (fun s a T2 => ∃ u : Nat, a.length = 141 ∧ a[0]? = some (.os k 0 d.size x) ∧ a[1]? = some (.int .i64 lo) ∧ a[2]? = some (.int .i64 hi) ∧ a[3]? = some (cf) ∧ a[9]? = some (.int .i64 u) ∧ a[10]? = some (.int .i64 r) ∧ T2 = T' ∧ u = i + s ∧ e = Sort.scanSorted (lt c) d1 hi u) d.size ?_ (by omega) ?_
    · refine ⟨i, ?_⟩
      simp (maxSteps := 1000000) (disch := omega) only [push_cast, eq_self, Nat.add_zero, hal, h0, h1, h2, h3, h9, h10]
      exact he
    clear hal h0 h1 h2 h3 h9 h10 a
    rintro s a T' hi' ⟨u, hal, h0, h1, h2, h3, h9, h10, rfl, hu, hqu⟩
    rw [Sort.scanSorted] at hqu
    by_cases g : u < hi
    case neg =>
      rw [if_neg (by simp [g])] at hqu
      simp (maxSteps := 1000000) (disch := omega) only [push_cast, ↓wc_seq, ↓wc_condL, ↓wc_region, ↓wr_cons, ↓wr_consgL, ↓wr_nil, ↓wo_pickL, ↓wc_exit, wo_some, opQ_eq, seqQ_normal, seqQ_exit, blockQ_exit, iterQ_exit, pickC_false, pickO_false, gstep_ft, Nat.reduceAdd, Nat.reduceMul, Nat.reduceLT, Nat.reduceEqDiff, ↓reduceIte, planIds, List.contains_cons, List.contains_nil, Nat.reduceBEq, setC, List.length_set, reduceCtorEq, eq_self, Int.ofNat_lt, Nat.zero_add, planIds, List.contains_cons, List.contains_nil, Nat.reduceBEq, Nat.reduceMul, Nat.reduceAdd, ↓reduceIte, hal, h0, h1, h2, h3, h9, h10, g, hqu]
    obtain ⟨u', hu'⟩ : ∃ u', u = u' + 1 := ⟨u - 1, by omega⟩
    have w0 : IntKind.i64.wrap ((u : Int) - 1) = (u' : Int) := by rw [wrap_ok (by omega) (by omega)]; omega
    have hu1 : u - 1 = u' := by omega
    rw [hu1] at hqu
    have b1 : u < d.size := by omega
    have b2 : u' < d.size := by omega
    have l1 := row_at (val := val) (d := d1) (i := u) (by omega)
    have l2 := row_at (val := val) (d := d1) (i := u') (by omega)
    have cc := fun st => hC n (by omega) d1 T' hr st d1[u]! d1[u']!
    by_cases e1 : c d1[u]! d1[u']! < 0
    · rw [if_neg (by simp [lt, e1])] at hqu
      simp (maxSteps := 1000000) (disch := omega) only [push_cast, ↓wc_seq, ↓wc_condL, ↓wc_region, ↓wr_cons, ↓wr_consgL, ↓wr_nil, ↓wo_pickL, ↓wc_exit, wo_some, opQ_eq, seqQ_normal, seqQ_exit, blockQ_exit, iterQ_exit, pickC_false, pickO_true, gstep_tt, Nat.reduceAdd, Nat.reduceMul, Nat.reduceLT, Nat.reduceEqDiff, ↓reduceIte, planIds, List.contains_cons, List.contains_nil, Nat.reduceBEq, setC, List.length_set, reduceCtorEq, eq_self, Int.natCast_nonneg, Int.toNat_natCast, Int.ofNat_lt, Nat.zero_add, planIds, List.contains_cons, List.contains_nil, Nat.reduceBEq, Nat.reduceMul, Nat.reduceAdd, ↓reduceIte, hal, h0, h1, h2, h3, h9, h10, g, w0, hr.row, sz_el, b1, b2, l1, l2, ↓wo_callv, cc, e1, hqu]
    · rw [if_pos (by simp [lt, g, e1])] at hqu
      simp (maxSteps := 1000000) (disch := omega) only [push_cast, ↓wc_seq, ↓wc_block, ↓wc_condL, ↓wc_region, ↓wr_cons, ↓wr_consgL, ↓wr_nil, ↓wo_pickL, ↓wc_skip, wo_some, opQ_eq, seqQ_normal, blockQ_normal, iterQ_normal, pickC_true, pickO_true, gstep_tt, Nat.reduceAdd, Nat.reduceMul, Nat.reduceLT, Nat.reduceEqDiff, ↓reduceIte, planIds, List.contains_cons, List.contains_nil, Nat.reduceBEq, setC, List.length_set, reduceCtorEq, eq_self, Int.natCast_nonneg, Int.toNat_natCast, Int.ofNat_lt, D.int.injEq, Option.some.injEq, Nat.zero_add, planIds, List.contains_cons, List.contains_nil, Nat.reduceBEq, Nat.reduceMul, Nat.reduceAdd, ↓reduceIte, hal, h0, h1, h2, h3, h9, h10, g, w0, hr.row, sz_el, b1, b2, l1, l2, ↓wo_callv, cc, e1, wrap_ok]
      exact ⟨by omega, u + 1, by simp only [Int.natCast_add, Int.natCast_one], by omega, hqu⟩
  clear hal h0 h1 h2 h3 h9 h10 a
  rintro a T2 ⟨rfl, hal, h0, h1, h2, h3, h9, h10⟩
  by_cases g1 : e = hi
  · rw [if_pos g1] at hq
    have g1' : ((e : Int) = (hi : Int)) := by rw [g1]
    simp (maxSteps := 1000000) (disch := omega) only [push_cast, ↓wc_seq, ↓wc_condL, ↓wc_region, ↓wr_cons, ↓wr_nil, ↓wc_ret, wo_some, opQ_eq, seqQ_normal, seqQ_ret, blockQ_ret, iterQ_ret, retQ_ret, pickC_true, int_beq, Nat.reduceAdd, Nat.reduceMul, Nat.reduceLT, Nat.reduceEqDiff, ↓reduceIte, planIds, List.contains_cons, List.contains_nil, Nat.reduceBEq, setC, List.length_set, eq_self, Nat.zero_add, planIds, List.contains_cons, List.contains_nil, Nat.reduceBEq, Nat.reduceMul, Nat.reduceAdd, ↓reduceIte, hal, h2, h9, g1', Tryd.f83]
    rw [hq]; exact ⟨rfl, hr, hs1⟩
  rw [if_neg g1] at hq
  have g1' : ¬ ((e : Int) = (hi : Int)) := by omega
  obtain ⟨ln, hln⟩ : ∃ ln, ln = hi - lo := ⟨_, rfl⟩
  have w1 : IntKind.i64.wrap ((hi : Int) - (lo : Int)) = (ln : Int) := by rw [wrap_ok (by omega) (by omega)]; omega
  by_cases g2 : hi - lo < 50
  · rw [if_pos g2] at hq
    have g2' : ((ln : Int) < 50) := by omega
    simp (maxSteps := 1000000) (disch := omega) only [push_cast, ↓wc_seq, ↓wc_condL, ↓wc_region, ↓wr_cons, ↓wr_nil, ↓wc_ret, ↓wc_skip, wo_some, opQ_eq, seqQ_normal, seqQ_ret, blockQ_ret, iterQ_ret, retQ_ret, pickC_true, pickC_false, int_beq, Nat.reduceAdd, Nat.reduceMul, Nat.reduceLT, Nat.reduceEqDiff, ↓reduceIte, planIds, List.contains_cons, List.contains_nil, Nat.reduceBEq, setC, List.length_set, eq_self, Nat.zero_add, planIds, List.contains_cons, List.contains_nil, Nat.reduceBEq, Nat.reduceMul, Nat.reduceAdd, ↓reduceIte, hal, h1, h2, h9, g1', w1, g2', Tryd.f83]
    rw [hq]; exact ⟨rfl, hr, hs1⟩
  rw [if_neg g2] at hq
  have g2' : ¬ ((ln : Int) < 50) := by omega
  obtain ⟨e', hee⟩ : ∃ e', e = e' + 1 := ⟨e - 1, by omega⟩
  have hee' : e - 1 = e' := by omega
  rw [hee'] at hq
  have w2 : IntKind.i64.wrap ((e : Int) - 1) = (e' : Int) := by rw [wrap_ok (by omega) (by omega)]; omega
  rw [wc_asc, wc_asc]
  obtain ⟨d2, hd2⟩ : ∃ d2, d2 = Sort.swp d1 e e' := ⟨_, rfl⟩
  rw [← hd2] at hq
  have hs2 : d2.size = d.size := by rw [hd2, swp_size]; exact hs1
  refine wc_scut (fun a T' => a.length = 141 ∧ a[0]? = some (.os k 0 d.size x) ∧ a[1]? = some (.int .i64 lo) ∧ a[2]? = some (.int .i64 hi) ∧ a[3]? = some (cf) ∧ a[9]? = some (.int .i64 e) ∧ a[10]? = some (.int .i64 r) ∧ R S0 k val d2 T') ?_ ?_
  · have b1 : e < d.size := by omega
    have b2 : e' < d.size := by omega
    have l1 := row_at (val := val) (d := d1) (i := e) (by omega)
    have l2 := row_at (val := val) (d := d1) (i := e') (by omega)
    have l3 := row_at (val := val) (d := d1.setIfInBounds e d1[e']!) (i := e') (by simp; omega)
    have hkl := hr.lt
    simp (maxSteps := 1000000) (disch := omega) only [push_cast, ↓wc_seq, ↓wc_condL, ↓wc_region, ↓wr_cons, ↓wr_nil, ↓wc_skip, wo_some, opQ_eq, seqQ_normal, pickC_false, int_beq, Nat.reduceAdd, Nat.reduceMul, Nat.reduceLT, Nat.reduceLeDiff, Nat.reduceEqDiff, ↓reduceIte, planIds, List.contains_cons, List.contains_nil, Nat.reduceBEq, setC, List.length_set, reduceCtorEq, eq_self, Int.natCast_nonneg, Int.toNat_natCast, Int.ofNat_lt, Nat.zero_add, planIds, List.contains_cons, List.contains_nil, Nat.reduceBEq, Nat.reduceMul, Nat.reduceAdd, ↓reduceIte, hal, h0, h1, h2, h3, h9, h10, g1', w1, g2', w2, hr.row, sz_el, b1, b2, l1, l2, l3, hkl, cv, ov, row_set, List.set_set]
    rw [hd2]; exact hr.put
  clear hal h0 h1 h2 h3 h9 h10 a
  clear hr
  rintro a T1 ⟨hal, h0, h1, h2, h3, h9, h10, hr⟩
  obtain ⟨d3, hd3⟩ : ∃ d3, d3 = Sort.fixDown (lt c) lo e d2 := ⟨_, rfl⟩
  rw [← hd3] at hq
  have hs3 : d3.size = d.size := by
    rw [hd3, Sort.fixDown]
    split
    · rw [shiftDown_size]; exact hs2
    · exact hs2
  obtain ⟨el, hel⟩ : ∃ el, el = e - lo := ⟨_, rfl⟩
  have w3 : IntKind.i64.wrap ((e : Int) - (lo : Int)) = (el : Int) := by rw [wrap_ok (by omega) (by omega)]; omega
  refine wc_scut (fun a T' => a.length = 141 ∧ a[0]? = some (.os k 0 d.size x) ∧ a[1]? = some (.int .i64 lo) ∧ a[2]? = some (.int .i64 hi) ∧ a[3]? = some (cf) ∧ a[9]? = some (.int .i64 e) ∧ a[10]? = some (.int .i64 r) ∧ R S0 k val d3 T') ?_ ?_
  · by_cases g3 : el ≥ 2
    case neg =>
      have g3' : ¬ ((2 : Int) ≤ (el : Int)) := by omega
      rw [Sort.fixDown, if_neg (by omega)] at hd3
      simp (maxSteps := 1000000) (disch := omega) only [push_cast, ↓wc_seq, ↓wc_condL, ↓wc_region, ↓wr_cons, ↓wr_nil, ↓wc_skip, wo_some, opQ_eq, seqQ_normal, pickC_false, Nat.reduceAdd, Nat.reduceMul, Nat.reduceLT, Nat.reduceEqDiff, ↓reduceIte, planIds, List.contains_cons, List.contains_nil, Nat.reduceBEq, setC, List.length_set, reduceCtorEq, eq_self, Nat.zero_add, planIds, List.contains_cons, List.contains_nil, Nat.reduceBEq, Nat.reduceMul, Nat.reduceAdd, ↓reduceIte, hal, h0, h1, h2, h3, h9, h10, w3, g3']
      rw [hd3]; exact hr
    have g3' : ((2 : Int) ≤ (el : Int)) := by omega
    rw [Sort.fixDown, if_pos (by omega), hee'] at hd3
    simp (maxSteps := 1000000) (disch := omega) only [push_cast, ↓wc_seq, ↓wc_block, ↓wc_condL, ↓wc_region, ↓wr_cons, ↓wr_nil, ↓wc_wl, wo_some, opQ_eq, seqQ_normal, pickC_true, Nat.reduceAdd, Nat.reduceMul, Nat.reduceLT, Nat.reduceEqDiff, ↓reduceIte, planIds, List.contains_cons, List.contains_nil, Nat.reduceBEq, setC, List.length_set, eq_self, Nat.zero_add, planIds, List.contains_cons, List.contains_nil, Nat.reduceBEq, Nat.reduceMul, Nat.reduceAdd, ↓reduceIte, hal, h1, h9, w3, g3', w2]
    refine wl_loop (fun s a T' => ∃ (d4 : Array α) (j : Nat), a.length = 141 ∧ a[0]? = some (.os k 0 d.size x) ∧ a[1]? = some (.int .i64 lo) ∧ a[2]? = some (.int .i64 hi) ∧ a[3]? = some (cf) ∧ a[9]? = some (.int .i64 e) ∧ a[10]? = some (.int .i64 r) ∧ a[11]? = some (.int .i64 j) ∧ j + s = e' ∧ d4.size = d.size ∧ R S0 k val d4 T' ∧ d3 = Sort.shiftDown (lt c) j d4) e' ?_ (by omega) ?_
    · refine ⟨d2, e', ?_⟩
      simp (maxSteps := 1000000) (disch := omega) only [push_cast, Nat.reduceLT, Nat.reduceEqDiff, ↓reduceIte, setC, List.length_set, reduceCtorEq, eq_self, Nat.add_zero, ↓reduceIte, hal, h0, h1, h2, h3, h9, h10]
      exact ⟨hs2, hr, hd3⟩
    clear hal h0 h1 h2 h3 h9 h10 a
    clear hr
    rintro s a T' hs' ⟨d4, j, hal, h0, h1, h2, h3, h9, h10, h11, hj, hs4, hr, hqj⟩
    cases j with
    | zero =>
      have g : ¬ ((1 : Int) ≤ ((0 : Nat) : Int)) := by omega
      rw [Sort.shiftDown] at hqj
      simp (maxSteps := 1000000) (disch := omega) only [push_cast, ↓wc_seq, ↓wc_condL, ↓wc_region, ↓wr_cons, ↓wr_nil, ↓wc_exit, wo_some, opQ_eq, seqQ_normal, seqQ_exit, blockQ_exit, iterQ_exit, pickC_false, Nat.reduceAdd, Nat.reduceMul, Nat.reduceLT, Nat.reduceEqDiff, Int.reduceLE, ↓reduceIte, planIds, List.contains_cons, List.contains_nil, Nat.reduceBEq, setC, List.length_set, reduceCtorEq, eq_self, Nat.zero_add, planIds, List.contains_cons, List.contains_nil, Nat.reduceBEq, Nat.reduceMul, Nat.reduceAdd, ↓reduceIte, hal, h0, h1, h2, h3, h9, h10, h11, ge_iff_le]
      rw [hqj]; exact hr
    | succ j' =>
    rw [Sort.shiftDown] at hqj
    obtain ⟨j, hj1⟩ : ∃ j, j = j' + 1 := ⟨_, rfl⟩
    rw [← hj1] at h11 hqj hj
    have g : ((1 : Int) ≤ (j : Int)) := by omega
    have w0 : IntKind.i64.wrap ((j : Int) - 1) = (j' : Int) := by rw [wrap_ok (by omega) (by omega)]; omega
    have b1 : j < d.size := by omega
    have b2 : j' < d.size := by omega
    have l1 := row_at (val := val) (d := d4) (i := j) (by omega)
    have l2 := row_at (val := val) (d := d4) (i := j') (by omega)
    have cc := fun st => hC n (by omega) d4 T' hr st d4[j]! d4[j']!
    by_cases e1 : c d4[j]! d4[j']! < 0
    · rw [if_neg (by simp [lt, e1])] at hqj
      have l3 := row_at (val := val) (d := d4.setIfInBounds j d4[j']!) (i := j') (by simp; omega)
      have hkl := hr.lt
      simp (maxSteps := 1000000) (disch := omega) only [push_cast, ↓wc_seq, ↓wc_block, ↓wc_condL, ↓wc_region, ↓wr_cons, ↓wr_nil, ↓wc_skip, wo_some, opQ_eq, seqQ_normal, blockQ_normal, iterQ_normal, pickC_true, pickC_false, Nat.reduceAdd, Nat.reduceMul, Nat.reduceLT, Nat.reduceLeDiff, Nat.reduceEqDiff, ↓reduceIte, planIds, List.contains_cons, List.contains_nil, Nat.reduceBEq, setC, List.length_set, reduceCtorEq, eq_self, Int.natCast_nonneg, Int.toNat_natCast, Int.ofNat_lt, D.int.injEq, Option.some.injEq, Nat.zero_add, planIds, List.contains_cons, List.contains_nil, Nat.reduceBEq, Nat.reduceMul, Nat.reduceAdd, ↓reduceIte, hal, h0, h1, h2, h3, h9, h10, h11, g, w0, hr.row, sz_el, b1, b2, l1, l2, ↓wo_callv, cc, e1, l3, hkl, cv, ov, row_set, List.set_set]
      exact ⟨by omega, Sort.swp d4 j j', j', rfl, by omega, by rw [swp_size]; exact hs4, hr.put, hqj⟩
    · rw [if_pos (by simp [lt, e1])] at hqj
      simp (maxSteps := 1000000) (disch := omega) only [push_cast, ↓wc_seq, ↓wc_block, ↓wc_condL, ↓wc_region, ↓wr_cons, ↓wr_nil, ↓wc_exit, ↓wc_skip, wo_some, opQ_eq, seqQ_normal, seqQ_exit, blockQ_exit, iterQ_exit, pickC_true, Nat.reduceAdd, Nat.reduceMul, Nat.reduceLT, Nat.reduceEqDiff, ↓reduceIte, planIds, List.contains_cons, List.contains_nil, Nat.reduceBEq, setC, List.length_set, reduceCtorEq, eq_self, Int.natCast_nonneg, Int.toNat_natCast, Int.ofNat_lt, Nat.zero_add, planIds, List.contains_cons, List.contains_nil, Nat.reduceBEq, Nat.reduceMul, Nat.reduceAdd, ↓reduceIte, hal, h0, h1, h2, h3, h9, h10, h11, g, w0, hr.row, sz_el, b1, b2, l1, l2, ↓wo_callv, cc, e1]
      rw [hqj]; exact hr
  clear hal h0 h1 h2 h3 h9 h10 a
  clear hr
  rintro a T1 ⟨hal, h0, h1, h2, h3, h9, h10, hr⟩
  obtain ⟨d5, hd5⟩ : ∃ d5, d5 = Sort.fixUp (lt c) hi e d3 := ⟨_, rfl⟩
  rw [← hd5] at hq
  have hs5 : d5.size = d.size := by
    rw [hd5, Sort.fixUp]
    split
    · rw [shiftUp_size rfl]; exact hs3
    · exact hs3
  obtain ⟨er, her⟩ : ∃ er, er = hi - e := ⟨_, rfl⟩
  have w4 : IntKind.i64.wrap ((hi : Int) - (e : Int)) = (er : Int) := by rw [wrap_ok (by omega) (by omega)]; omega
  refine wc_mono (Q := fun q a T' => q = .normal ∧ a.length = 141 ∧ a[0]? = some (.os k 0 d.size x) ∧ a[1]? = some (.int .i64 lo) ∧ a[2]? = some (.int .i64 hi) ∧ a[3]? = some (cf) ∧ a[9]? = some (.int .i64 e) ∧ a[10]? = some (.int .i64 r) ∧ R S0 k val d5 T') ?_ ?_
  case refine_2 =>
    clear hal h0 h1 h2 h3 h9 h10 hr a
    rintro q a T' ⟨rfl, hal, h0, h1, h2, h3, h9, h10, hr⟩
    simp (maxSteps := 1000000) (disch := omega) only [push_cast, ↓wc_region, ↓wr_cons, ↓wr_nil, wo_some, opQ_eq, seqQ_normal, blockQ_normal, iterQ_normal, Nat.reduceAdd, Nat.reduceMul, Nat.reduceLT, Nat.reduceLeDiff, Nat.reduceEqDiff, ↓reduceIte, planIds, List.contains_cons, List.contains_nil, Nat.reduceBEq, setC, List.length_set, reduceCtorEq, eq_self, D.int.injEq, Option.some.injEq, Nat.zero_add, planIds, List.contains_cons, List.contains_nil, Nat.reduceBEq, Nat.reduceMul, Nat.reduceAdd, ↓reduceIte, hal, h0, h1, h2, h3, h9, h10, wrap_ok, Int.natCast_add, Int.natCast_one]
    exact ⟨by omega, d5, e, rfl, ⟨by omega, by omega, by omega⟩, hs5, hr, hq⟩
  by_cases g3 : er ≥ 2
  case neg =>
    have g3' : ¬ ((2 : Int) ≤ (er : Int)) := by omega
    rw [Sort.fixUp, if_neg (by omega)] at hd5
    simp (maxSteps := 1000000) (disch := omega) only [push_cast, ↓wc_seq, ↓wc_condL, ↓wc_region, ↓wr_cons, ↓wr_nil, ↓wc_skip, wo_some, opQ_eq, seqQ_normal, pickC_false, Nat.reduceAdd, Nat.reduceMul, Nat.reduceLT, Nat.reduceEqDiff, ↓reduceIte, planIds, List.contains_cons, List.contains_nil, Nat.reduceBEq, setC, List.length_set, reduceCtorEq, eq_self, Nat.zero_add, planIds, List.contains_cons, List.contains_nil, Nat.reduceBEq, Nat.reduceMul, Nat.reduceAdd, ↓reduceIte, hal, h0, h1, h2, h3, h9, h10, w4, g3']
    rw [hd5]; exact hr
  have g3' : ((2 : Int) ≤ (er : Int)) := by omega
  rw [Sort.fixUp, if_pos (by omega)] at hd5
  have w5 : IntKind.i64.wrap ((e : Int) + 1) = ((e + 1 : Nat) : Int) := by rw [wrap_ok (by omega) (by omega)]; omega
  obtain ⟨f, hf⟩ : ∃ f, f = e + 1 := ⟨_, rfl⟩
  rw [← hf] at w5 hd5
  simp (maxSteps := 1000000) (disch := omega) only [push_cast, ↓wc_seq, ↓wc_block, ↓wc_condL, ↓wc_region, ↓wr_cons, ↓wr_nil, ↓wc_wl, wo_some, opQ_eq, seqQ_normal, pickC_true, Nat.reduceAdd, Nat.reduceMul, Nat.reduceLT, Nat.reduceEqDiff, ↓reduceIte, planIds, List.contains_cons, List.contains_nil, Nat.reduceBEq, setC, List.length_set, eq_self, Nat.zero_add, planIds, List.contains_cons, List.contains_nil, Nat.reduceBEq, Nat.reduceMul, Nat.reduceAdd, ↓reduceIte, hal, h2, h9, w4, g3', w5]
  refine wl_loop (fun s a T' => ∃ (d4 : Array α) (j : Nat), a.length = 141 ∧ a[0]? = some (.os k 0 d.size x) ∧ a[1]? = some (.int .i64 lo) ∧ a[2]? = some (.int .i64 hi) ∧ a[3]? = some (cf) ∧ a[9]? = some (.int .i64 e) ∧ a[10]? = some (.int .i64 r) ∧ a[12]? = some (.int .i64 j) ∧ j = f + s ∧ d4.size = d.size ∧ R S0 k val d4 T' ∧ d5 = Sort.shiftUp (lt c) hi j d4) d.size ?_ (by omega) ?_
  · refine ⟨d3, f, ?_⟩
    simp (maxSteps := 1000000) (disch := omega) only [push_cast, Nat.reduceLT, Nat.reduceEqDiff, ↓reduceIte, setC, List.length_set, reduceCtorEq, eq_self, Nat.add_zero, ↓reduceIte, hal, h0, h1, h2, h3, h9, h10]
    exact ⟨hs3, hr, hd5⟩
  clear hal h0 h1 h2 h3 h9 h10 a
  clear hr
  rintro s a T' hs' ⟨d4, j, hal, h0, h1, h2, h3, h9, h10, h12, hj, hs4, hr, hqj⟩
  rw [Sort.shiftUp] at hqj
  by_cases g : j < hi
  case neg =>
    rw [if_neg g] at hqj
    simp (maxSteps := 1000000) (disch := omega) only [push_cast, ↓wc_seq, ↓wc_condL, ↓wc_region, ↓wr_cons, ↓wr_nil, ↓wc_exit, wo_some, opQ_eq, seqQ_normal, seqQ_exit, blockQ_exit, iterQ_exit, pickC_false, Nat.reduceAdd, Nat.reduceMul, Nat.reduceLT, Nat.reduceEqDiff, ↓reduceIte, planIds, List.contains_cons, List.contains_nil, Nat.reduceBEq, setC, List.length_set, reduceCtorEq, eq_self, Int.ofNat_lt, Nat.zero_add, planIds, List.contains_cons, List.contains_nil, Nat.reduceBEq, Nat.reduceMul, Nat.reduceAdd, ↓reduceIte, hal, h0, h1, h2, h3, h9, h10, h12, g]
    rw [hqj]; exact hr
  rw [if_pos g] at hqj
  obtain ⟨j', hj1⟩ : ∃ j', j = j' + 1 := ⟨j - 1, by omega⟩
  have hj2 : j - 1 = j' := by omega
  rw [hj2] at hqj
  have w0 : IntKind.i64.wrap ((j : Int) - 1) = (j' : Int) := by rw [wrap_ok (by omega) (by omega)]; omega
  have b1 : j < d.size := by omega
  have b2 : j' < d.size := by omega
  have l1 := row_at (val := val) (d := d4) (i := j) (by omega)
  have l2 := row_at (val := val) (d := d4) (i := j') (by omega)
  have cc := fun st => hC n (by omega) d4 T' hr st d4[j]! d4[j']!
  by_cases e1 : c d4[j]! d4[j']! < 0
  · rw [if_neg (by simp [lt, e1])] at hqj
    have l3 := row_at (val := val) (d := d4.setIfInBounds j d4[j']!) (i := j') (by simp; omega)
    have hkl := hr.lt
    simp (maxSteps := 1000000) (disch := omega) only [push_cast, ↓wc_seq, ↓wc_block, ↓wc_condL, ↓wc_region, ↓wr_cons, ↓wr_nil, ↓wc_skip, wo_some, opQ_eq, seqQ_normal, blockQ_normal, iterQ_normal, pickC_true, pickC_false, Nat.reduceAdd, Nat.reduceMul, Nat.reduceLT, Nat.reduceLeDiff, Nat.reduceEqDiff, ↓reduceIte, planIds, List.contains_cons, List.contains_nil, Nat.reduceBEq, setC, List.length_set, reduceCtorEq, eq_self, Int.natCast_nonneg, Int.toNat_natCast, Int.ofNat_lt, D.int.injEq, Option.some.injEq, Nat.zero_add, planIds, List.contains_cons, List.contains_nil, Nat.reduceBEq, Nat.reduceMul, Nat.reduceAdd, ↓reduceIte, hal, h0, h1, h2, h3, h9, h10, h12, g, w0, hr.row, sz_el, b1, b2, l1, l2, ↓wo_callv, cc, e1, l3, hkl, cv, ov, row_set, List.set_set, wrap_ok]
    exact ⟨by omega, Sort.swp d4 j j', j + 1, by simp only [Int.natCast_add, Int.natCast_one], by omega, by rw [swp_size]; exact hs4, hr.put, hqj⟩
  · rw [if_pos (by simp [lt, e1])] at hqj
    simp (maxSteps := 1000000) (disch := omega) only [push_cast, ↓wc_seq, ↓wc_block, ↓wc_condL, ↓wc_region, ↓wr_cons, ↓wr_nil, ↓wc_exit, ↓wc_skip, wo_some, opQ_eq, seqQ_normal, seqQ_exit, blockQ_exit, iterQ_exit, pickC_true, Nat.reduceAdd, Nat.reduceMul, Nat.reduceLT, Nat.reduceEqDiff, ↓reduceIte, planIds, List.contains_cons, List.contains_nil, Nat.reduceBEq, setC, List.length_set, reduceCtorEq, eq_self, Int.natCast_nonneg, Int.toNat_natCast, Int.ofNat_lt, Nat.zero_add, planIds, List.contains_cons, List.contains_nil, Nat.reduceBEq, Nat.reduceMul, Nat.reduceAdd, ↓reduceIte, hal, h0, h1, h2, h3, h9, h10, h12, g, w0, hr.row, sz_el, b1, b2, l1, l2, ↓wo_callv, cc, e1]
    rw [hqj]; exact hr
end Srt

namespace Srt
variable {α : Type} {S0 T : List Ob} {k : Nat} {val : α → D} {d : Array α} {cf : D} {c : α → α → Int}
/-- A box that holds a number. -/
def Bx (kd : IntKind) (T : List Ob) (q : Nat) : Prop := ∃ s : Int, T[q]? = some (.row 1 [[.int kd s]])
theorem R.setq (h : R S0 k val d T) {q : Nat} {o : Ob} (hq : S0.length ≤ q) (hk : q ≠ k) : R S0 k val d (T.set q o) where
  row := by rw [List.getElem?_set_ne hk]; exact h.row
  old := fun j o' hj ho => by
    have : j < S0.length := (List.getElem?_eq_some_iff.1 ho).1
    rw [List.getElem?_set_ne (by omega)]; exact h.old j o' hj ho
  len := by rw [List.length_set]; exact h.len
theorem loc_own {kk i o : Nat} {l : List D} : pureL (.loc kk i o :: l) = false := by simp [pureL_cons, D.pure]
variable [Inhabited α]
set_option maxHeartbeats 4000000 in
set_option maxRecDepth 100000 in
theorem order2_d {n n0 p q b : Nat} {x : Bool} (hC : CmpOk n0 S0 k val cf c) (hn : n0 ≤ n) (hp : p < d.size) (hq : q < d.size) (_hz : d.size ≤ 100000) (h : R S0 k val d T) (hb : Bx .i64 T b) (hbS : S0.length ≤ b) (hbk : b ≠ k) :
    WO (dcall E (n + 1) 101 [.os k 0 d.size x, .int .i64 p, .int .i64 q, .loc b 0 0, cf] T) fun r T' => ∃ u v : Nat, r = .tup [.int .i64 u, .int .i64 v] ∧ ((u = p ∧ v = q) ∨ (u = q ∧ v = p)) ∧ R S0 k val d T' ∧ Bx .i64 T' b := by
  obtain ⟨s, hs⟩ := hb
  refine wo_dcall Tryd.func101 rfl (by decide) rfl 32 rfl (fun a hal ha => ?_)
  have h0 : a[0]? = some (.os k 0 d.size x) := ha 0 (by simp)
  have h1 : a[1]? = some (.int .i64 p) := ha 1 (by simp)
  have h2 : a[2]? = some (.int .i64 q) := ha 2 (by simp)
  have h3 : a[3]? = some (.loc b 0 0) := ha 3 (by simp)
  have h4 : a[4]? = some (cf) := ha 4 (by simp)
  clear ha
  have l1 := row_at (val := val) (d := d) (i := p) (by omega)
  have l2 := row_at (val := val) (d := d) (i := q) (by omega)
  have cc := fun st => hC n (by omega) d T h st d[q]! d[p]!
  have hbl : b < T.length := (List.getElem?_eq_some_iff.1 hs).1
  by_cases e1 : c d[q]! d[p]! < 0
  · simp (maxSteps := 1000000) (disch := omega) only [push_cast, ↓wc_seq, ↓wc_condL, ↓wc_region, ↓wr_cons, ↓wr_nil, ↓wc_ret, wo_some, opQ_eq, seqQ_normal, seqQ_ret, retQ_ret, pickC_true, Nat.reduceAdd, Nat.reduceMul, Nat.reduceLT, Nat.reduceLeDiff, Nat.reduceEqDiff, ↓reduceIte, planIds, List.contains_cons, List.contains_nil, Nat.reduceBEq, setC, List.length_set, reduceCtorEq, eq_self, Int.natCast_nonneg, Int.toNat_natCast, Int.ofNat_lt, Nat.zero_add, planIds, List.contains_cons, List.contains_nil, Nat.reduceBEq, Nat.reduceMul, Nat.reduceAdd, ↓reduceIte, hal, h0, h1, h2, h3, h4, h.row, sz_el, hp, hq, l1, l2, ↓wo_callv, cc, e1, hs, Tryd.f101]
    exact ⟨q, p, rfl, .inr ⟨rfl, rfl⟩, h.setq hbS hbk, _, List.getElem?_set_self hbl⟩
  · simp (maxSteps := 1000000) (disch := omega) only [push_cast, ↓wc_seq, ↓wc_condL, ↓wc_region, ↓wr_cons, ↓wr_nil, ↓wc_ret, ↓wc_skip, wo_some, opQ_eq, seqQ_normal, retQ_ret, pickC_false, Nat.reduceAdd, Nat.reduceMul, Nat.reduceLT, Nat.reduceEqDiff, ↓reduceIte, planIds, List.contains_cons, List.contains_nil, Nat.reduceBEq, setC, List.length_set, reduceCtorEq, eq_self, Int.natCast_nonneg, Int.toNat_natCast, Int.ofNat_lt, Nat.zero_add, planIds, List.contains_cons, List.contains_nil, Nat.reduceBEq, Nat.reduceMul, Nat.reduceAdd, ↓reduceIte, hal, h0, h1, h2, h4, h.row, sz_el, hp, hq, l1, l2, ↓wo_callv, cc, e1, Tryd.f101]
    exact ⟨p, q, rfl, .inl ⟨rfl, rfl⟩, h, s, hs⟩
set_option maxHeartbeats 4000000 in
set_option maxRecDepth 100000 in
theorem median_d {n n0 p q r b : Nat} {x : Bool} (hC : CmpOk n0 S0 k val cf c) (hn : n0 + 1 ≤ n) (hp : p < d.size) (hq : q < d.size) (hr : r < d.size) (hz : d.size ≤ 100000) (h : R S0 k val d T) (hb : Bx .i64 T b) (hbS : S0.length ≤ b) (hbk : b ≠ k) :
    WO (dcall E (n + 1) 96 [.os k 0 d.size x, .int .i64 p, .int .i64 q, .int .i64 r, .loc b 0 0, cf] T) fun o T' => ∃ u : Nat, o = .int .i64 u ∧ (u = p ∨ u = q ∨ u = r) ∧ R S0 k val d T' ∧ Bx .i64 T' b := by
  obtain ⟨m, rfl⟩ : ∃ m, n = m + 1 := ⟨n - 1, by omega⟩
  obtain ⟨_, T1, c1, u1, v1, rfl, k1, h1', b1⟩ := order2_d (n := m) (x := x) hC (by omega) hp hq hz h hb hbS hbk
  have c1 := (callD_own (f := 101) rfl pure_own).trans c1
  obtain ⟨_, T2, c2, u2, v2, rfl, k2, h2', b2⟩ := order2_d (n := m) (p := v1) (q := r) (x := x) hC (by omega) (by omega) hr hz h1' b1 hbS hbk
  have c2 := (callD_own (f := 101) rfl pure_own).trans c2
  obtain ⟨_, T3, c3, u3, v3, rfl, k3, h3', b3⟩ := order2_d (n := m) (p := u1) (q := u2) (x := x) hC (by omega) (by omega) (by omega) hz h2' b2 hbS hbk
  have c3 := (callD_own (f := 101) rfl pure_own).trans c3
  refine wo_dcall Tryd.func96 rfl (by decide) rfl 41 rfl (fun a hal ha => ?_)
  have h0 : a[0]? = some (.os k 0 d.size x) := ha 0 (by simp)
  have h1 : a[1]? = some (.int .i64 p) := ha 1 (by simp)
  have h2 : a[2]? = some (.int .i64 q) := ha 2 (by simp)
  have h3 : a[3]? = some (.int .i64 r) := ha 3 (by simp)
  have h4 : a[4]? = some (.loc b 0 0) := ha 4 (by simp)
  have h5 : a[5]? = some (cf) := ha 5 (by simp)
  clear ha
  simp (maxSteps := 1000000) (disch := omega) only [push_cast, ↓wc_seq, ↓wc_region, ↓wr_cons, ↓wr_nil, ↓wo_callf, ↓wc_ret, wo_some, opQ_eq, seqQ_normal, retQ_ret, Nat.reduceAdd, Nat.reduceMul, Nat.reduceLT, Nat.reduceEqDiff, ↓reduceIte, planIds, hasExt, cntFs, idxFs, clnFs, ovlFs, List.contains_cons, List.contains_nil, List.any_nil, Nat.reduceBEq, setC, List.length_set, reduceCtorEq, eq_self, D.int.injEq, Nat.zero_add, planIds, hasExt, cntFs, idxFs, clnFs, ovlFs, List.contains_cons, List.contains_nil, List.any_nil, Nat.reduceBEq, Nat.reduceMul, Nat.reduceAdd, ↓reduceIte, hal, h0, h1, h2, h3, h4, h5, c1, c2, c3, Tryd.f96]
  exact ⟨v3, rfl, by omega, h3', b3⟩
set_option maxHeartbeats 4000000 in
set_option maxRecDepth 100000 in
theorem medAdj_d {n n0 p b : Nat} {x : Bool} (hC : CmpOk n0 S0 k val cf c) (hn : n0 + 2 ≤ n) (hp : 1 ≤ p) (hq : p + 1 < d.size) (hz : d.size ≤ 100000) (h : R S0 k val d T) (hb : Bx .i64 T b) (hbS : S0.length ≤ b) (hbk : b ≠ k) :
    WO (dcall E (n + 1) 95 [.os k 0 d.size x, .int .i64 p, .loc b 0 0, cf] T) fun o T' => ∃ u : Nat, o = .int .i64 u ∧ p ≤ u + 1 ∧ u ≤ p + 1 ∧ R S0 k val d T' ∧ Bx .i64 T' b := by
  obtain ⟨m, rfl⟩ : ∃ m, n = m + 1 := ⟨n - 1, by omega⟩
  obtain ⟨p0, hp0⟩ : ∃ p0, p0 = p - 1 := ⟨_, rfl⟩
  obtain ⟨p2, hp2⟩ : ∃ p2, p2 = p + 1 := ⟨_, rfl⟩
  have w1 : IntKind.i64.wrap ((p : Int) - 1) = (p0 : Int) := by rw [wrap_ok (by omega) (by omega)]; omega
  have w2 : IntKind.i64.wrap ((p : Int) + 1) = (p2 : Int) := by rw [wrap_ok (by omega) (by omega)]; omega
  obtain ⟨_, T1, c1, u1, rfl, k1, h1', b1⟩ := median_d (n := m) (p := p0) (q := p) (r := p2) (x := x) hC (by omega) (by omega) (by omega) (by omega) hz h hb hbS hbk
  have c1 := (callD_own (f := 96) rfl pure_own).trans c1
  refine wo_dcall Tryd.func95 rfl (by decide) rfl 18 rfl (fun a hal ha => ?_)
  have h0 : a[0]? = some (.os k 0 d.size x) := ha 0 (by simp)
  have h1 : a[1]? = some (.int .i64 p) := ha 1 (by simp)
  have h2 : a[2]? = some (.loc b 0 0) := ha 2 (by simp)
  have h3 : a[3]? = some (cf) := ha 3 (by simp)
  clear ha
  simp (maxSteps := 1000000) (disch := omega) only [push_cast, ↓wc_seq, ↓wc_region, ↓wr_cons, ↓wr_nil, ↓wo_callf, ↓wc_ret, wo_some, opQ_eq, seqQ_normal, retQ_ret, Nat.reduceAdd, Nat.reduceMul, Nat.reduceLT, Nat.reduceEqDiff, ↓reduceIte, planIds, hasExt, cntFs, idxFs, clnFs, ovlFs, List.contains_cons, List.contains_nil, List.any_nil, Nat.reduceBEq, setC, List.length_set, reduceCtorEq, eq_self, D.int.injEq, Nat.zero_add, planIds, hasExt, cntFs, idxFs, clnFs, ovlFs, List.contains_cons, List.contains_nil, List.any_nil, Nat.reduceBEq, Nat.reduceMul, Nat.reduceAdd, ↓reduceIte, hal, h0, h1, h2, h3, w1, w2, c1, Tryd.f95]
  exact ⟨u1, rfl, by omega, by omega, h1', b1⟩
set_option maxHeartbeats 8000000 in
set_option maxRecDepth 100000 in
theorem choose_d {n n0 lo hi : Nat} {x : Bool} (hC : CmpOk n0 S0 k val cf c) (hn : n0 + 3 ≤ n) (hab : lo + 12 < hi) (hb : hi ≤ d.size) (hz : d.size ≤ 100000) (h : R S0 k val d T) :
    WO (dcall E (n + 1) 81 [.os k 0 d.size x, .int .i64 lo, .int .i64 hi, cf] T) fun o T' => ∃ (u : Nat) (e : Int), o = .tup [.int .i64 u, .int .i64 e] ∧ lo ≤ u ∧ u < hi ∧ R S0 k val d T' := by
  obtain ⟨m, rfl⟩ : ∃ m, n = m + 1 := ⟨n - 1, by omega⟩
  obtain ⟨ln, hln⟩ : ∃ ln, ln = hi - lo := ⟨_, rfl⟩
  obtain ⟨qu, hqu⟩ : ∃ qu, qu = ln / 4 := ⟨_, rfl⟩
  have w1 : IntKind.i64.wrap ((hi : Int) - (lo : Int)) = (ln : Int) := by rw [wrap_ok (by omega) (by omega)]; omega
  have w2 : IntKind.i64.wrap ((ln : Int).tdiv 4) = (qu : Int) := by
    rw [show (4 : Int) = ((4 : Nat) : Int) from rfl, ← Int.ofNat_tdiv, wrap_ok (by omega) (by omega), hqu]
  obtain ⟨i, hi'⟩ : ∃ i, i = lo + qu * 1 := ⟨_, rfl⟩
  obtain ⟨j, hj'⟩ : ∃ i, i = lo + qu * 2 := ⟨_, rfl⟩
  obtain ⟨l, hl'⟩ : ∃ i, i = lo + qu * 3 := ⟨_, rfl⟩
  have w3 : IntKind.i64.wrap ((lo : Int) + IntKind.i64.wrap ((qu : Int) * 1)) = (i : Int) := by rw [wrap_ok (x := (qu : Int) * 1) (by omega) (by omega), wrap_ok (by omega) (by omega)]; omega
  have w4 : IntKind.i64.wrap ((lo : Int) + IntKind.i64.wrap ((qu : Int) * 2)) = (j : Int) := by rw [wrap_ok (x := (qu : Int) * 2) (by omega) (by omega), wrap_ok (by omega) (by omega)]; omega
  have w5 : IntKind.i64.wrap ((lo : Int) + IntKind.i64.wrap ((qu : Int) * 3)) = (l : Int) := by rw [wrap_ok (x := (qu : Int) * 3) (by omega) (by omega), wrap_ok (by omega) (by omega)]; omega
  have g8 : (8 : Int) ≤ (ln : Int) := by omega
  have hpush := h.push (.row 1 [[.int .i64 0]])
  have hkl := h.lt
  have hbx : Bx .i64 (T ++ [.row 1 [[.int .i64 0]]]) T.length := ⟨0, get_end⟩
  have hSl := h.len
  have hTk : T.length ≠ k := by omega
  refine wo_dcall Tryd.func81 rfl (by decide) rfl 63 rfl (fun a hal ha => ?_)
  have h0 : a[0]? = some (.os k 0 d.size x) := ha 0 (by simp)
  have h1 : a[1]? = some (.int .i64 lo) := ha 1 (by simp)
  have h2 : a[2]? = some (.int .i64 hi) := ha 2 (by simp)
  have h3 : a[3]? = some (cf) := ha 3 (by simp)
  clear ha
  generalize hTq : T.length = tq at *
  have fin : ∀ (u : Nat) (T' : List Ob), lo ≤ u → u < hi → R S0 k val d T' → Bx .i64 T' tq → ∀ a : List D, a.length = 63 ∧ a[11]? = some (.loc tq 0 0) ∧ a[13]? = some (.int .i64 u) → True := fun _ _ _ _ _ _ _ _ => trivial
  clear fin
  by_cases g50 : 50 ≤ ln
  · have g50' : (50 : Int) ≤ (ln : Int) := by omega
    obtain ⟨_, T1, c1, u1, rfl, k1, k1', r1, b1⟩ := medAdj_d (n := m) (p := i) (x := x) hC (by omega) (by omega) (by omega) hz hpush hbx (by omega) hTk
    have c1 := (callD_own (f := 95) rfl pure_own).trans c1
    obtain ⟨_, T2, c2, u2, rfl, k2, k2', r2, b2⟩ := medAdj_d (n := m) (p := j) (x := x) hC (by omega) (by omega) (by omega) hz r1 b1 (by omega) hTk
    have c2 := (callD_own (f := 95) rfl pure_own).trans c2
    obtain ⟨_, T3, c3, u3, rfl, k3, k3', r3, b3⟩ := medAdj_d (n := m) (p := l) (x := x) hC (by omega) (by omega) (by omega) hz r2 b2 (by omega) hTk
    have c3 := (callD_own (f := 95) rfl pure_own).trans c3
    obtain ⟨_, T4, c4, u4, rfl, k4, r4, s, b4⟩ := median_d (n := m) (p := u1) (q := u2) (r := u3) (x := x) hC (by omega) (by omega) (by omega) (by omega) hz r3 b3 (by omega) hTk
    have c4 := (callD_own (f := 96) rfl pure_own).trans c4
    by_cases g1 : s = 0
    · subst g1
      simp (maxSteps := 1000000) (disch := omega) only [push_cast, ↓wc_seq, ↓wc_block, ↓wc_condL, ↓wc_region, ↓wr_cons, ↓wr_nil, ↓wo_callf, ↓wc_ret, wo_some, opQ_eq, seqQ_normal, blockQ_ret, retQ_ret, pickC_true, int_beq, Nat.reduceAdd, Nat.reduceMul, Nat.reduceLT, Nat.reduceEqDiff, Int.reduceEq, ↓reduceIte, planIds, hasExt, cntFs, idxFs, clnFs, ovlFs, List.contains_cons, List.contains_nil, List.any_nil, Nat.reduceBEq, setC, List.length_set, reduceCtorEq, eq_self, Nat.zero_add, planIds, hasExt, cntFs, idxFs, clnFs, ovlFs, List.contains_cons, List.contains_nil, List.any_nil, Nat.reduceBEq, Nat.reduceMul, Nat.reduceAdd, ↓reduceIte, hal, h0, h1, h2, h3, hTq, w1, w2, w3, w4, w5, g8, g50', c1, c2, c3, c4, b4, Tryd.f81]
      exact ⟨u4, _, rfl, by omega, by omega, r4⟩
    by_cases g2 : s = 12
    · subst g2
      simp (maxSteps := 1000000) (disch := omega) only [push_cast, ↓wc_seq, ↓wc_block, ↓wc_condL, ↓wc_region, ↓wr_cons, ↓wr_nil, ↓wo_callf, ↓wc_ret, wo_some, opQ_eq, seqQ_normal, blockQ_ret, retQ_ret, pickC_true, pickC_false, int_beq, Nat.reduceAdd, Nat.reduceMul, Nat.reduceLT, Nat.reduceEqDiff, Int.reduceEq, ↓reduceIte, planIds, hasExt, cntFs, idxFs, clnFs, ovlFs, List.contains_cons, List.contains_nil, List.any_nil, Nat.reduceBEq, setC, List.length_set, reduceCtorEq, eq_self, Nat.zero_add, planIds, hasExt, cntFs, idxFs, clnFs, ovlFs, List.contains_cons, List.contains_nil, List.any_nil, Nat.reduceBEq, Nat.reduceMul, Nat.reduceAdd, ↓reduceIte, hal, h0, h1, h2, h3, hTq, w1, w2, w3, w4, w5, g8, g50', c1, c2, c3, c4, b4, Tryd.f81]
      exact ⟨u4, _, rfl, by omega, by omega, r4⟩
    · simp (maxSteps := 1000000) (disch := omega) only [push_cast, ↓wc_seq, ↓wc_block, ↓wc_condL, ↓wc_region, ↓wr_cons, ↓wr_nil, ↓wo_callf, ↓wc_ret, wo_some, opQ_eq, seqQ_normal, blockQ_ret, retQ_ret, pickC_true, pickC_false, int_beq, Nat.reduceAdd, Nat.reduceMul, Nat.reduceLT, Nat.reduceEqDiff, Int.reduceEq, ↓reduceIte, planIds, hasExt, cntFs, idxFs, clnFs, ovlFs, List.contains_cons, List.contains_nil, List.any_nil, Nat.reduceBEq, setC, List.length_set, reduceCtorEq, eq_self, Nat.zero_add, planIds, hasExt, cntFs, idxFs, clnFs, ovlFs, List.contains_cons, List.contains_nil, List.any_nil, Nat.reduceBEq, Nat.reduceMul, Nat.reduceAdd, ↓reduceIte, hal, h0, h1, h2, h3, hTq, w1, w2, w3, w4, w5, g8, g50', c1, c2, c3, c4, b4, g1, g2, Tryd.f81]
      exact ⟨u4, _, rfl, by omega, by omega, r4⟩
  · have g50' : ¬ (50 : Int) ≤ (ln : Int) := by omega
    obtain ⟨_, T4, c4, u4, rfl, k4, r4, s, b4⟩ := median_d (n := m) (p := i) (q := j) (r := l) (x := x) hC (by omega) (by omega) (by omega) (by omega) hz hpush hbx (by omega) hTk
    have c4 := (callD_own (f := 96) rfl pure_own).trans c4
    by_cases g1 : s = 0
    · subst g1
      simp (maxSteps := 1000000) (disch := omega) only [push_cast, ↓wc_seq, ↓wc_block, ↓wc_condL, ↓wc_region, ↓wr_cons, ↓wr_nil, ↓wo_callf, ↓wc_ret, ↓wc_skip, wo_some, opQ_eq, seqQ_normal, blockQ_ret, retQ_ret, pickC_true, pickC_false, int_beq, Nat.reduceAdd, Nat.reduceMul, Nat.reduceLT, Nat.reduceEqDiff, Int.reduceEq, ↓reduceIte, planIds, hasExt, cntFs, idxFs, clnFs, ovlFs, List.contains_cons, List.contains_nil, List.any_nil, Nat.reduceBEq, setC, List.length_set, reduceCtorEq, eq_self, Nat.zero_add, planIds, hasExt, cntFs, idxFs, clnFs, ovlFs, List.contains_cons, List.contains_nil, List.any_nil, Nat.reduceBEq, Nat.reduceMul, Nat.reduceAdd, ↓reduceIte, hal, h0, h1, h2, h3, hTq, w1, w2, w3, w4, w5, g8, g50', c4, b4, Tryd.f81]
      exact ⟨u4, _, rfl, by omega, by omega, r4⟩
    by_cases g2 : s = 12
    · subst g2
      simp (maxSteps := 1000000) (disch := omega) only [push_cast, ↓wc_seq, ↓wc_block, ↓wc_condL, ↓wc_region, ↓wr_cons, ↓wr_nil, ↓wo_callf, ↓wc_ret, ↓wc_skip, wo_some, opQ_eq, seqQ_normal, blockQ_ret, retQ_ret, pickC_true, pickC_false, int_beq, Nat.reduceAdd, Nat.reduceMul, Nat.reduceLT, Nat.reduceEqDiff, Int.reduceEq, ↓reduceIte, planIds, hasExt, cntFs, idxFs, clnFs, ovlFs, List.contains_cons, List.contains_nil, List.any_nil, Nat.reduceBEq, setC, List.length_set, reduceCtorEq, eq_self, Nat.zero_add, planIds, hasExt, cntFs, idxFs, clnFs, ovlFs, List.contains_cons, List.contains_nil, List.any_nil, Nat.reduceBEq, Nat.reduceMul, Nat.reduceAdd, ↓reduceIte, hal, h0, h1, h2, h3, hTq, w1, w2, w3, w4, w5, g8, g50', c4, b4, Tryd.f81]
      exact ⟨u4, _, rfl, by omega, by omega, r4⟩
    · simp (maxSteps := 1000000) (disch := omega) only [push_cast, ↓wc_seq, ↓wc_block, ↓wc_condL, ↓wc_region, ↓wr_cons, ↓wr_nil, ↓wo_callf, ↓wc_ret, ↓wc_skip, wo_some, opQ_eq, seqQ_normal, blockQ_ret, retQ_ret, pickC_true, pickC_false, int_beq, Nat.reduceAdd, Nat.reduceMul, Nat.reduceLT, Nat.reduceEqDiff, Int.reduceEq, ↓reduceIte, planIds, hasExt, cntFs, idxFs, clnFs, ovlFs, List.contains_cons, List.contains_nil, List.any_nil, Nat.reduceBEq, setC, List.length_set, reduceCtorEq, eq_self, Nat.zero_add, planIds, hasExt, cntFs, idxFs, clnFs, ovlFs, List.contains_cons, List.contains_nil, List.any_nil, Nat.reduceBEq, Nat.reduceMul, Nat.reduceAdd, ↓reduceIte, hal, h0, h1, h2, h3, hTq, w1, w2, w3, w4, w5, g8, g50', c4, b4, g1, g2, Tryd.f81]
      exact ⟨u4, _, rfl, by omega, by omega, r4⟩
end Srt
end Go.Proofs.YtgomkmamgflbeaaDoor.Dm
