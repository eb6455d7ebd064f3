/-
  The machine at slices.SortFunc of identifiers of legs, at most twelve: insertion. In any environment.
-/
import Derived.Test.YtajhgnefcddenaaGreatDoorSkT
import Derived.Test.YtajhgnefcddenaaGreatDoorTxE
import Derived.Sort.AssemblyPlain
namespace Go.Proofs.YtajhgnefcddenaaGreatDoor.Dm
open Go Gw
set_option linter.unusedSimpArgs false
set_option linter.unusedSimpArgs false

instance : Inhabited Lid := ⟨⟨ByteArray.mk #[], 0, 0, ByteArray.mk #[]⟩⟩
namespace Lg
variable {S0 T : List Ob} {k : Nat} {d : Array Lid} {cf : D} {c : Lid → Lid → Int}
def rowS (d : Array Lid) : List (List D) := d.toList.map Lid.enc
/-- A store whose row k holds the identifiers; all else lies there still. -/
structure R (S0 : List Ob) (k : Nat) (d : Array Lid) (T : List Ob) : Prop where
  row : T[k]? = some (.row 4 (rowS d))
  old : ∀ j o, j ≠ k → S0[j]? = some o → T[j]? = some o
  len : S0.length ≤ T.length
def lt (c : Lid → Lid → Int) (x y : Lid) : Bool := decide (c x y < 0)
/-- The comparison, at data of such a store. -/
def CmpOk (n0 : Nat) (S0 : List Ob) (k : Nat) (cf : D) (c : Lid → Lid → Int) : Prop :=
  ∀ n, n0 ≤ n → ∀ (d : Array Lid) T, R S0 k d T → ∀ st x y, callV E0 (dcall E0 n) st T cf [.agg (Lid.enc x), .agg (Lid.enc y)] = some (.int .i64 (c x y), T)
theorem row_set {i : Nat} {y : Lid} : (rowS d).set i (Lid.enc y) = rowS (d.setIfInBounds i y) := by
  unfold rowS
  rw [Array.toList_setIfInBounds, List.map_set]
theorem R.put (h : R S0 k d T) {d' : Array Lid} : R S0 k d' (T.set k (.row 4 (rowS d'))) where
  row := List.getElem?_set_self (List.getElem?_eq_some_iff.1 h.row).1
  old := fun j o hj ho => by rw [List.getElem?_set_ne (Ne.symm hj)]; exact h.old j o hj ho
  len := by rw [List.length_set]; exact h.len
theorem R.lt (h : R S0 k d T) : k < T.length := (List.getElem?_eq_some_iff.1 h.row).1
theorem pure_own {kk n : Nat} {x : Bool} {l : List D} : pureL (.os kk 0 n x :: l) = false := by simp [pureL_cons, D.pure]
theorem row_at {i : Nat} (hi : i < d.size) : (rowS d)[i]? = some (Lid.enc d[i]!) := by
  unfold rowS
  rw [List.getElem?_map, Array.getElem?_toList]
  simp [hi]
theorem swp_size {i j : Nat} : (Sort.swp d i j).size = d.size := by simp [Sort.swp]
set_option maxHeartbeats 8000000 in
set_option maxRecDepth 100000 in
theorem ins_d {n n0 lo hi : Nat} {x : Bool} (hC : CmpOk n0 S0 k cf c) (hn : n0 + d.size + 2 ≤ n) (hab : lo ≤ hi) (hb : hi ≤ d.size) (hz : d.size ≤ 100000) (h : R S0 k d T) :
    WO (dcall E0 (n + 1) 160 [.os k 0 d.size x, .int .i64 lo, .int .i64 hi, cf] T) fun _ T' => R S0 k (Sort.insertionSort (lt c) d lo hi) T' := by
  refine wo_dcall Tryz.func160 rfl (by decide) rfl 53 rfl (fun a hal ha => ?_)
  have h0 : a[0]? = some (.os k 0 d.size x) := ha 0 (by simp)
  have h1 : a[1]? = some (.int .i64 lo) := ha 1 (by simp)
  have h2 : a[2]? = some (.int .i64 hi) := ha 2 (by simp)
  have h3 : a[3]? = some (cf) := ha 3 (by simp)
  clear ha
  simp (maxSteps := 1000000) (disch := omega) only [push_cast, ↓wc_seq, ↓wc_block, ↓wc_region, ↓wr_cons, ↓wr_nil, ↓wc_wl, wo_some, opQ_eq, seqQ_normal, Nat.reduceAdd, Nat.reduceMul, Nat.reduceLT, ↓reduceIte, planIds, List.contains_cons, List.contains_nil, Nat.reduceBEq, setC, List.length_set, eq_self, Nat.zero_add, hal, h1, wrap_ok]
  refine wl_loop (fun i a T' => ∃ (d' : Array Lid) (m : Nat), a.length = 53 ∧ a[0]? = some (.os k 0 d.size x) ∧ a[1]? = some (.int .i64 lo) ∧ a[2]? = some (.int .i64 hi) ∧ a[3]? = some (cf) ∧ a[8]? = some (.int .i64 m) ∧ m = lo + 1 + i ∧ d'.size = d.size ∧ R S0 k d' T' ∧ Sort.insertionSort (lt c) d lo hi = Sort.insOuter (lt c) lo hi m d') (hi + 1) ?_ (by omega) ?_
  · refine ⟨d, lo + 1, ?_⟩
    simp (maxSteps := 1000000) (disch := omega) only [push_cast, Nat.reduceLT, Nat.reduceEqDiff, ↓reduceIte, setC, List.length_set, reduceCtorEq, eq_self, Nat.add_zero, hal, h0, h1, h2, h3, Int.natCast_add, Int.natCast_one]
    exact ⟨h, rfl⟩
  clear hal h0 h1 h2 h3 a
  rintro i a T' hi' ⟨d', m, hal, h0, h1, h2, h3, h8, hm, hs, hr, hv'⟩
  by_cases g : m < hi
  case neg =>
    rw [Sort.insOuter, if_neg g] at hv'
    simp (maxSteps := 1000000) (disch := omega) only [push_cast, ↓wc_seq, ↓wc_condL, ↓wc_region, ↓wr_cons, ↓wr_nil, ↓wc_exit, wo_some, opQ_eq, seqQ_normal, seqQ_exit, blockQ_exit, iterQ_exit, retQ_normal, pickC_false, Nat.reduceAdd, Nat.reduceMul, Nat.reduceLT, Nat.reduceEqDiff, ↓reduceIte, planIds, List.contains_cons, List.contains_nil, Nat.reduceBEq, setC, List.length_set, eq_self, Int.ofNat_lt, Nat.zero_add, hal, h2, h8, g, Tryz.f160]
    rw [hv']; exact hr
  rw [Sort.insOuter, if_pos g] at hv'
  simp (maxSteps := 1000000) (disch := omega) only [push_cast, ↓wc_seq, ↓wc_block, ↓wc_condL, ↓wc_region, ↓wr_cons, ↓wr_nil, ↓wc_skip, ↓wc_wl, wo_some, opQ_eq, seqQ_normal, pickC_true, Nat.reduceAdd, Nat.reduceMul, Nat.reduceLT, Nat.reduceEqDiff, ↓reduceIte, planIds, List.contains_cons, List.contains_nil, Nat.reduceBEq, setC, List.length_set, eq_self, Int.ofNat_lt, Nat.zero_add, hal, h2, h8, g, wc_wl]
  refine wl_loop (fun i' a T' => ∃ (d'' : Array Lid) (j : Nat), a.length = 53 ∧ a[0]? = some (.os k 0 d.size x) ∧ a[1]? = some (.int .i64 lo) ∧ a[2]? = some (.int .i64 hi) ∧ a[3]? = some (cf) ∧ a[8]? = some (.int .i64 m) ∧ a[9]? = some (.int .i64 j) ∧ j + i' = m ∧ d''.size = d.size ∧ R S0 k d'' T' ∧ Sort.insInner (lt c) lo m d' = Sort.insInner (lt c) lo j d'') (m + 1) ?_ (by omega) ?_
  · refine ⟨d', m, ?_⟩
    simp (maxSteps := 1000000) (disch := omega) only [push_cast, Nat.reduceLT, Nat.reduceEqDiff, ↓reduceIte, setC, List.length_set, reduceCtorEq, eq_self, Nat.add_zero, hal, h0, h1, h2, h3, h8]
    exact ⟨hs, hr⟩
  clear hal h0 h1 h2 h3 h8 a
  clear hr
  rintro i' a T' hi'' ⟨d'', j, hal, h0, h1, h2, h3, h8, h9, hj, hs', hr, hq⟩
  have done : ∀ e, Sort.insInner (lt c) lo j d'' = d'' → e = m + 1 → e = lo + 1 + (i + 1) ∧ d''.size = d.size ∧ R S0 k d'' T' ∧ Sort.insertionSort (lt c) d lo hi = Sort.insOuter (lt c) lo hi e d'' := fun e he h1 => by
    subst h1
    rw [hq, he] at hv'
    exact ⟨by omega, hs', hr, hv'⟩
  by_cases g1 : lo < j
  case neg =>
    have he : Sort.insInner (lt c) lo j d'' = d'' := by
      cases j with
      | zero => rfl
      | succ j => rw [Sort.insInner, if_neg (by simp; intro; omega)]
    simp (maxSteps := 1000000) (disch := omega) only [push_cast, ↓wc_seq, ↓wc_condL, ↓wc_region, ↓wr_cons, ↓wr_consgL, ↓wr_nil, ↓wo_pickL, ↓wc_exit, wo_some, opQ_eq, seqQ_normal, seqQ_exit, blockQ_normal, blockQ_exit, iterQ_normal, iterQ_exit, pickC_false, pickO_false, gstep_ft, Nat.reduceAdd, Nat.reduceMul, Nat.reduceLT, Nat.reduceEqDiff, ↓reduceIte, planIds, List.contains_cons, List.contains_nil, Nat.reduceBEq, setC, List.length_set, reduceCtorEq, eq_self, Int.ofNat_lt, D.int.injEq, Option.some.injEq, Nat.zero_add, gt_iff_lt, hal, h0, h1, h2, h3, h8, h9, g1, wrap_ok]
    refine ⟨by omega, d'', m + 1, ?_, ?_⟩
    · simp only [Int.natCast_add, Int.natCast_one]
    · exact done _ he rfl
  obtain ⟨j', hj'⟩ : ∃ j', j = j' + 1 := ⟨j - 1, by omega⟩
  have hw : IntKind.i64.wrap ((j : Int) - 1) = (j' : Int) := by rw [wrap_ok (by omega) (by omega)]; omega
  have hjl : j < d.size := by omega
  have hjl' : j' < d.size := by omega
  have l1 := row_at (d := d'') (i := j) (by omega)
  have l2 := row_at (d := d'') (i := j') (by omega)
  have l3 := row_at (d := d''.setIfInBounds j d''[j']!) (i := j') (by simp; omega)
  have cc := fun st => hC n (by omega) d'' T' hr st d''[j]! d''[j']!
  have hle : ∀ x : Lid, 4 ≤ (Lid.enc x).length := fun _ => Nat.le_refl _
  have htk : ∀ x : Lid, List.take 4 (Lid.enc x) = Lid.enc x := fun _ => rfl
  have hln : ∀ x : Lid, (Lid.enc x).length = 4 := fun _ => rfl
  have hon : ∀ x : Lid, (Lid.enc x).all D.one = true := fun _ => rfl
  by_cases e1 : c d''[j]! d''[j']! < 0
  case neg =>
    have he : Sort.insInner (lt c) lo j d'' = d'' := by
      subst hj'
      rw [Sort.insInner, if_neg (by simp [lt]; intro; omega)]
    simp (maxSteps := 1000000) (disch := omega) only [push_cast, ↓wc_seq, ↓wc_condL, ↓wc_region, ↓wr_cons, ↓wr_consgL, ↓wr_nil, ↓wo_pickL, ↓wc_exit, wo_some, opQ_eq, seqQ_normal, seqQ_exit, blockQ_normal, blockQ_exit, iterQ_normal, iterQ_exit, pickC_false, pickO_true, gstep_tt, Nat.reduceAdd, Nat.reduceMul, Nat.reduceLT, Nat.reduceEqDiff, ↓reduceIte, planIds, List.contains_cons, List.contains_nil, Nat.reduceBEq, setC, List.length_set, reduceCtorEq, eq_self, Int.natCast_nonneg, Int.toNat_natCast, Int.ofNat_lt, D.int.injEq, Option.some.injEq, Nat.zero_add, gt_iff_lt, hal, h0, h1, h2, h3, h8, h9, g1, wrap_ok, hr.row, hw, hjl, hjl', l1, l2, ↓wo_callv, cc, e1, hle, htk]
    refine ⟨by omega, d'', m + 1, ?_, ?_⟩
    · simp only [Int.natCast_add, Int.natCast_one]
    · exact done _ he rfl
  have he : Sort.insInner (lt c) lo j d'' = Sort.insInner (lt c) lo j' (Sort.swp d'' j j') := by
    subst hj'
    rw [Sort.insInner, if_pos (by simp [lt]; omega)]
  have hkl := hr.lt
  have hjj : ¬ j = j' := by omega
  have hsf : ∀ x y : Lid, setFrom (Lid.enc x) 0 (Lid.enc y) = Lid.enc y := fun _ _ => rfl
  simp (maxSteps := 1000000) (disch := omega) only [push_cast, ↓wc_seq, ↓wc_block, ↓wc_condL, ↓wc_region, ↓wr_cons, ↓wr_consgL, ↓wr_nil, ↓wo_pickL, ↓wc_skip, wo_some, opQ_eq, seqQ_normal, blockQ_normal, iterQ_normal, pickC_true, pickO_true, gstep_tt, Nat.reduceAdd, Nat.reduceMul, Nat.reduceLT, Nat.reduceLeDiff, Nat.reduceEqDiff, ↓reduceIte, planIds, List.contains_cons, List.contains_nil, Nat.reduceBEq, setC, List.length_set, reduceCtorEq, eq_self, Int.natCast_nonneg, Int.toNat_natCast, Int.ofNat_lt, D.int.injEq, Option.some.injEq, Nat.zero_add, gt_iff_lt, hal, h0, h1, h2, h3, h8, h9, g1, hr.row, hw, hjl, hjl', l1, l2, ↓wo_callv, cc, e1, l3, hkl, row_set, List.set_set, htk, hln, hon, hsf]
  exact ⟨by omega, Sort.swp d'' j j', j', rfl, by omega, by rw [swp_size]; exact hs', hr.put, by rw [hq, he]⟩
theorem pure0Z {call : Call} {st : Bool} {S : List Ob} {f : FuncId} {args : List D} {d d' : D} {T : List Ob} (hm : E0.mode f = .pure) (hp : pureL args = true) (h : call f args [] = some (d, T)) (hd : freeze T 40 d = some d') : callD E0 call st S f args = some (d', S) := by
  unfold callD
  rw [hm]
  dsimp only
  rw [if_pos hp, h]
  dsimp only
  rw [hd]
  rfl
theorem ownZ {call : Call} {S : List Ob} {f : FuncId} {args : List D} (hm : E0.mode f = .pure) (hp : pureL args = false) : callD E0 call false S f args = call f args S := by
  unfold callD
  rw [hm]
  dsimp only
  rw [if_neg (by rw [hp]; simp), if_neg (by simp)]
theorem callVZ {call : Call} {st : Bool} {S : List Ob} {g : FuncId} {x y l : List D} (hm : E0.mode g = .pure) : callV E0 call st S (.func g x y) l = callD E0 call st S g (x ++ l ++ y) := by
  show (if (st && !(decide (E0.mode g = .pure) || decide (E0.mode g = .obs))) = true then none else callD E0 call st S g (x ++ l ++ y)) = _
  rw [if_neg (by simp [hm])]
/-! ### The comparison -/
def cmpL (x y : Lid) : Int := or4 (cmpS x.c y.c) (cmpI x.n y.n) (cmpI x.d y.d) (cmpS x.f y.f)
set_option maxRecDepth 100000 in
theorem nanI {n : Nat} (hn : 1 ≤ n) (u : Int) (st : Bool) (S : List Ob) : callD E0 (dcall E0 n) st S 100 [.int .i64 u] = some (.bool false, S) := by
  obtain ⟨m, rfl⟩ : ∃ m, n = m + 1 := ⟨n - 1, by omega⟩
  have : WO (dcall E0 (m + 1) 100 [.int .i64 u] []) fun d _ => d = .bool false := by
    refine wo_dcall Tryz.func100 rfl (by decide) rfl 6 rfl (fun a hal ha => ?_)
    have h0 : a[0]? = some (.int .i64 u) := ha 0 (by simp)
    clear ha
    simp (maxSteps := 1000000) (disch := omega) only [push_cast, ↓wc_seq, ↓wc_region, ↓wr_cons, ↓wr_nil, ↓wc_ret, wo_some, opQ_eq, seqQ_normal, retQ_ret, Nat.reduceAdd, Nat.reduceMul, Nat.reduceLT, Nat.reduceEqDiff, ↓reduceIte, planIds, List.contains_cons, List.contains_nil, Nat.reduceBEq, setC, List.length_set, reduceCtorEq, eq_self, Nat.zero_add, hal, h0, bne_self_eq_false, Tryz.f100]
  obtain ⟨d, T, ho, rfl⟩ := this
  exact pure0Z rfl rfl ho rfl
set_option maxRecDepth 100000 in
theorem nanS {n : Nat} (hn : 1 ≤ n) (u : ByteArray) (st : Bool) (S : List Ob) : callD E0 (dcall E0 n) st S 149 [.str u] = some (.bool false, S) := by
  obtain ⟨m, rfl⟩ : ∃ m, n = m + 1 := ⟨n - 1, by omega⟩
  have : WO (dcall E0 (m + 1) 149 [.str u] []) fun d _ => d = .bool false := by
    refine wo_dcall Tryz.func149 rfl (by decide) rfl 6 rfl (fun a hal ha => ?_)
    have h0 : a[0]? = some (.str u) := ha 0 (by simp)
    clear ha
    simp (maxSteps := 1000000) (disch := omega) only [push_cast, ↓wc_seq, ↓wc_region, ↓wr_cons, ↓wr_nil, ↓wc_ret, wo_some, opQ_eq, seqQ_normal, retQ_ret, Nat.reduceAdd, Nat.reduceMul, Nat.reduceLT, Nat.reduceEqDiff, ↓reduceIte, planIds, List.contains_cons, List.contains_nil, Nat.reduceBEq, setC, List.length_set, reduceCtorEq, eq_self, Nat.zero_add, hal, h0, beq_self_eq_true, Bool.not_true, Tryz.f149]
  obtain ⟨d, T, ho, rfl⟩ := this
  exact pure0Z rfl rfl ho rfl
set_option maxRecDepth 100000 in
theorem cmpI_c {n : Nat} (hn : 2 ≤ n) (u v : Int) (st : Bool) (S : List Ob) : callD E0 (dcall E0 n) st S 44 [.int .i64 u, .int .i64 v] = some (.int .i64 (cmpI u v), S) := by
  obtain ⟨m, rfl⟩ : ∃ m, n = m + 1 := ⟨n - 1, by omega⟩
  have c1 := nanI (n := m) (by omega) u
  have c2 := nanI (n := m) (by omega) v
  have : WO (dcall E0 (m + 1) 44 [.int .i64 u, .int .i64 v] []) fun d _ => d = .int .i64 (cmpI u v) := by
    refine wo_dcall Tryz.func44 rfl (by decide) rfl 20 rfl (fun a hal ha => ?_)
    have h0 : a[0]? = some (.int .i64 u) := ha 0 (by simp)
    have h1 : a[1]? = some (.int .i64 v) := ha 1 (by simp)
    clear ha
    unfold cmpI
    by_cases h : u < v
    · rw [if_pos h]
      simp (maxSteps := 1000000) (disch := omega) only [push_cast, ↓wc_seq, ↓wc_condL, ↓wc_region, ↓wr_cons, ↓wr_nil, ↓wo_callf, ↓wc_ret, ↓wc_skip, wo_some, opQ_eq, seqQ_normal, seqQ_ret, retQ_ret, pickC_true, pickC_false, Nat.reduceAdd, Nat.reduceMul, Nat.reduceLT, Nat.reduceEqDiff, Int.reduceNeg, ↓reduceIte, planIds, hasExt, cntFs, idxFs, clnFs, ovlFs, List.contains_cons, List.contains_nil, List.any_cons, List.any_nil, Nat.reduceBEq, setC, List.length_set, reduceCtorEq, eq_self, Nat.zero_add, hal, h0, h1, c1, c2, h, Tryz.f44]
    · rw [if_neg h]
      by_cases h' : v < u
      · rw [if_pos h']
        simp (maxSteps := 1000000) (disch := omega) only [push_cast, ↓wc_seq, ↓wc_condL, ↓wc_region, ↓wr_cons, ↓wr_nil, ↓wo_callf, ↓wc_ret, ↓wc_skip, wo_some, opQ_eq, seqQ_normal, seqQ_ret, retQ_ret, pickC_true, pickC_false, Nat.reduceAdd, Nat.reduceMul, Nat.reduceLT, Nat.reduceEqDiff, Int.reduceNeg, ↓reduceIte, planIds, hasExt, cntFs, idxFs, clnFs, ovlFs, List.contains_cons, List.contains_nil, List.any_cons, List.any_nil, Nat.reduceBEq, setC, List.length_set, reduceCtorEq, eq_self, Nat.zero_add, gt_iff_lt, hal, h0, h1, c1, c2, h, h', Tryz.f44]
      · rw [if_neg h']
        simp (maxSteps := 1000000) (disch := omega) only [push_cast, ↓wc_seq, ↓wc_condL, ↓wc_region, ↓wr_cons, ↓wr_nil, ↓wo_callf, ↓wc_ret, ↓wc_skip, wo_some, opQ_eq, seqQ_normal, retQ_ret, pickC_false, Nat.reduceAdd, Nat.reduceMul, Nat.reduceLT, Nat.reduceEqDiff, Int.reduceNeg, ↓reduceIte, planIds, hasExt, cntFs, idxFs, clnFs, ovlFs, List.contains_cons, List.contains_nil, List.any_cons, List.any_nil, Nat.reduceBEq, setC, List.length_set, reduceCtorEq, eq_self, Nat.zero_add, gt_iff_lt, hal, h0, h1, c1, c2, h, h', Tryz.f44]
  obtain ⟨d, T, ho, rfl⟩ := this
  exact pure0Z rfl rfl ho rfl
set_option maxRecDepth 100000 in
theorem cmpS_c {n : Nat} (hn : 2 ≤ n) (u v : ByteArray) (st : Bool) (S : List Ob) : callD E0 (dcall E0 n) st S 119 [.str u, .str v] = some (.int .i64 (cmpS u v), S) := by
  obtain ⟨m, rfl⟩ : ∃ m, n = m + 1 := ⟨n - 1, by omega⟩
  have c1 := nanS (n := m) (by omega) u
  have c2 := nanS (n := m) (by omega) v
  have : WO (dcall E0 (m + 1) 119 [.str u, .str v] []) fun d _ => d = .int .i64 (cmpS u v) := by
    refine wo_dcall Tryz.func119 rfl (by decide) rfl 20 rfl (fun a hal ha => ?_)
    have h0 : a[0]? = some (.str u) := ha 0 (by simp)
    have h1 : a[1]? = some (.str v) := ha 1 (by simp)
    clear ha
    unfold cmpS
    generalize hb : Op.bytesLess u.toList v.toList = b
    generalize he : (u.toList == v.toList) = e
    cases b
    · cases e
      · simp (maxSteps := 1000000) (disch := omega) only [push_cast, ↓wc_seq, ↓wc_condL, ↓wc_region, ↓wr_cons, ↓wr_nil, ↓wo_callf, ↓wc_ret, ↓wc_skip, wo_some, opQ_eq, seqQ_normal, seqQ_ret, retQ_ret, pickC_true, pickC_false, Nat.reduceAdd, Nat.reduceMul, Nat.reduceLT, Nat.reduceEqDiff, Int.reduceNeg, ↓reduceIte, planIds, hasExt, cntFs, idxFs, clnFs, ovlFs, List.contains_cons, List.contains_nil, List.any_cons, List.any_nil, Nat.reduceBEq, setC, List.length_set, reduceCtorEq, eq_self, Nat.zero_add, hal, h0, h1, c1, c2, hb, he, Bool.or_self, Bool.not_false, Bool.false_eq_true, Tryz.f119]
      · simp (maxSteps := 1000000) (disch := omega) only [push_cast, ↓wc_seq, ↓wc_condL, ↓wc_region, ↓wr_cons, ↓wr_nil, ↓wo_callf, ↓wc_ret, ↓wc_skip, wo_some, opQ_eq, seqQ_normal, retQ_ret, pickC_false, Nat.reduceAdd, Nat.reduceMul, Nat.reduceLT, Nat.reduceEqDiff, Int.reduceNeg, ↓reduceIte, planIds, hasExt, cntFs, idxFs, clnFs, ovlFs, List.contains_cons, List.contains_nil, List.any_cons, List.any_nil, Nat.reduceBEq, setC, List.length_set, reduceCtorEq, eq_self, Nat.zero_add, hal, h0, h1, c1, c2, hb, he, Bool.false_or, Bool.not_true, Bool.false_eq_true, Tryz.f119]
    · simp (maxSteps := 1000000) (disch := omega) only [push_cast, ↓wc_seq, ↓wc_condL, ↓wc_region, ↓wr_cons, ↓wr_nil, ↓wo_callf, ↓wc_ret, ↓wc_skip, wo_some, opQ_eq, seqQ_normal, seqQ_ret, retQ_ret, pickC_true, pickC_false, Nat.reduceAdd, Nat.reduceMul, Nat.reduceLT, Nat.reduceEqDiff, Int.reduceNeg, ↓reduceIte, planIds, hasExt, cntFs, idxFs, clnFs, ovlFs, List.contains_cons, List.contains_nil, List.any_cons, List.any_nil, Nat.reduceBEq, setC, List.length_set, reduceCtorEq, eq_self, Nat.zero_add, hal, h0, h1, c1, c2, hb, Tryz.f119]
  obtain ⟨d, T, ho, rfl⟩ := this
  exact pure0Z rfl rfl ho rfl
set_option maxHeartbeats 4000000 in
set_option maxRecDepth 100000 in
theorem or_c {n : Nat} (hn : 9 ≤ n) (u v w z : Int) (x : Bool) (st : Bool) (S : List Ob) : callD E0 (dcall E0 n) st S 43 [.sl 1 [[.int .i64 u], [.int .i64 v], [.int .i64 w], [.int .i64 z]] x] = some (.int .i64 (or4 u v w z), S) := by
  obtain ⟨m, rfl⟩ : ∃ m, n = m + 7 + 1 := ⟨n - 8, by omega⟩
  have : WO (dcall E0 (m + 7 + 1) 43 [.sl 1 [[.int .i64 u], [.int .i64 v], [.int .i64 w], [.int .i64 z]] x] []) fun d _ => d = .int .i64 (or4 u v w z) := by
    refine wo_dcall Tryz.func43 rfl (by decide) rfl 18 rfl (fun a hal ha => ?_)
    have h0 : a[0]? = some (.sl 1 [[.int .i64 u], [.int .i64 v], [.int .i64 w], [.int .i64 z]] x) := ha 0 (by simp)
    clear ha
    obtain ⟨r, hr⟩ : ∃ r, or4 u v w z = r := ⟨_, rfl⟩
    rw [hr]
    unfold or4 at hr
    by_cases h1 : u = 0
    · rw [if_neg (by simpa using h1)] at hr
      subst h1
      by_cases h2 : v = 0
      · rw [if_neg (by simpa using h2)] at hr
        subst h2
        by_cases h3 : w = 0
        · rw [if_neg (by simpa using h3)] at hr
          subst h3
          by_cases h4 : z = 0
          · subst hr
            subst h4
            simp (maxSteps := 1000000) (disch := omega) only [push_cast, ↓wc_seq, ↓wc_block, ↓wc_condL, ↓wc_region, ↓wr_cons, ↓wr_nil, ↓wc_exit, ↓wc_ret, ↓wc_skip, ↓wc_wl, wo_some, opQ_eq, seqQ_normal, seqQ_exit, blockQ_normal, blockQ_exit, retQ_ret, pickC_true, pickC_false, int_bne, Nat.reduceAdd, Nat.reduceMul, Nat.reduceLT, Nat.reduceEqDiff, Int.reduceToNat, Int.reduceAdd, Int.reduceLT, Int.reduceLE, ↓reduceIte, planIds, List.contains_cons, List.contains_nil, Nat.reduceBEq, setC, List.length_set, reduceCtorEq, eq_self, Nat.zero_add, not_true_eq_false, hal, h0, wl_wln, ↓wln_succ, loopQ_normal, loopQ_exit, wrap_ok, Tryz.f43]
          · subst hr
            simp (maxSteps := 1000000) (disch := omega) only [push_cast, ↓wc_seq, ↓wc_block, ↓wc_condL, ↓wc_region, ↓wr_cons, ↓wr_nil, ↓wc_ret, ↓wc_skip, ↓wc_wl, wo_some, opQ_eq, seqQ_normal, seqQ_ret, blockQ_normal, blockQ_ret, retQ_ret, pickC_true, pickC_false, int_bne, Nat.reduceAdd, Nat.reduceMul, Nat.reduceLT, Nat.reduceEqDiff, Int.reduceToNat, Int.reduceAdd, Int.reduceLT, Int.reduceLE, ↓reduceIte, planIds, List.contains_cons, List.contains_nil, Nat.reduceBEq, setC, List.length_set, reduceCtorEq, eq_self, Nat.zero_add, not_true_eq_false, not_false_eq_true, hal, h0, wl_wln, ↓wln_succ, loopQ_normal, loopQ_ret, wrap_ok, h4, Tryz.f43]
        · rw [if_pos h3] at hr
          subst hr
          simp (maxSteps := 1000000) (disch := omega) only [push_cast, ↓wc_seq, ↓wc_block, ↓wc_condL, ↓wc_region, ↓wr_cons, ↓wr_nil, ↓wc_ret, ↓wc_skip, ↓wc_wl, wo_some, opQ_eq, seqQ_normal, seqQ_ret, blockQ_normal, blockQ_ret, retQ_ret, pickC_true, pickC_false, int_bne, Nat.reduceAdd, Nat.reduceMul, Nat.reduceLT, Nat.reduceEqDiff, Int.reduceToNat, Int.reduceAdd, Int.reduceLT, Int.reduceLE, ↓reduceIte, planIds, List.contains_cons, List.contains_nil, Nat.reduceBEq, setC, List.length_set, reduceCtorEq, eq_self, Nat.zero_add, not_true_eq_false, not_false_eq_true, hal, h0, wl_wln, ↓wln_succ, loopQ_normal, loopQ_ret, wrap_ok, h3, Tryz.f43]
      · rw [if_pos h2] at hr
        subst hr
        simp (maxSteps := 1000000) (disch := omega) only [push_cast, ↓wc_seq, ↓wc_block, ↓wc_condL, ↓wc_region, ↓wr_cons, ↓wr_nil, ↓wc_ret, ↓wc_skip, ↓wc_wl, wo_some, opQ_eq, seqQ_normal, seqQ_ret, blockQ_normal, blockQ_ret, retQ_ret, pickC_true, pickC_false, int_bne, Nat.reduceAdd, Nat.reduceMul, Nat.reduceLT, Nat.reduceEqDiff, Int.reduceAdd, Int.reduceLT, Int.reduceLE, ↓reduceIte, planIds, List.contains_cons, List.contains_nil, Nat.reduceBEq, setC, List.length_set, reduceCtorEq, eq_self, Nat.zero_add, not_true_eq_false, not_false_eq_true, hal, h0, wl_wln, ↓wln_succ, loopQ_normal, loopQ_ret, wrap_ok, h2, Tryz.f43]
    · rw [if_pos h1] at hr
      subst hr
      simp (maxSteps := 1000000) (disch := omega) only [push_cast, ↓wc_seq, ↓wc_block, ↓wc_condL, ↓wc_region, ↓wr_cons, ↓wr_nil, ↓wc_ret, ↓wc_skip, ↓wc_wl, wo_some, opQ_eq, seqQ_normal, seqQ_ret, blockQ_ret, retQ_ret, pickC_true, int_bne, Nat.reduceAdd, Nat.reduceMul, Nat.reduceLT, Nat.reduceEqDiff, Int.reduceAdd, Int.reduceLT, Int.reduceLE, ↓reduceIte, planIds, List.contains_cons, List.contains_nil, Nat.reduceBEq, setC, List.length_set, reduceCtorEq, eq_self, Nat.zero_add, not_false_eq_true, hal, h0, wl_wln, ↓wln_succ, loopQ_ret, h1, Tryz.f43]
  obtain ⟨d, T, ho, rfl⟩ := this
  exact pure0Z rfl rfl ho rfl
set_option maxHeartbeats 4000000 in
set_option maxRecDepth 100000 in
theorem cl_c {n : Nat} (hn : 12 ≤ n) (x y : Lid) (st : Bool) (S : List Ob) : callD E0 (dcall E0 n) st S 118 [.agg x.enc, .agg y.enc] = some (.int .i64 (cmpL x y), S) := by
  obtain ⟨m, rfl⟩ : ∃ m, n = m + 1 := ⟨n - 1, by omega⟩
  have s1 := fun u v => cmpS_c (n := m) (by omega) u v
  have i1 := fun u v => cmpI_c (n := m) (by omega) u v
  have o1 := fun u v w z x => or_c (n := m) (by omega) u v w z x
  have : WO (dcall E0 (m + 1) 118 [.agg x.enc, .agg y.enc] []) fun d _ => d = .int .i64 (cmpL x y) := by
    refine wo_dcall Tryz.func118 rfl (by decide) rfl 27 rfl (fun a hal ha => ?_)
    have h0 : a[0]? = some (.agg x.enc) := ha 0 (by simp)
    have h1 : a[1]? = some (.agg y.enc) := ha 1 (by simp)
    clear ha
    unfold cmpL
    simp only [Lid.enc] at h0 h1
    simp (maxSteps := 1000000) (disch := omega) only [push_cast, ↓wc_seq, ↓wc_region, ↓wr_cons, ↓wr_nil, ↓wo_callf, ↓wc_ret, wo_some, opQ_eq, seqQ_normal, retQ_ret, Nat.reduceAdd, Nat.reduceMul, Nat.reducePow, Nat.reduceLT, Nat.reduceLeDiff, Nat.reduceEqDiff, ↓wo_buildSlice, evParts, ↓reduceIte, planIds, hasExt, cntFs, idxFs, clnFs, ovlFs, List.contains_cons, List.contains_nil, List.any_cons, List.any_nil, Nat.reduceBEq, setC, List.length_set, eq_self, Nat.zero_add, Nat.add_zero, hal, h0, h1, s1, i1, o1, Tryz.f118]
  obtain ⟨d, T, ho, rfl⟩ := this
  exact pure0Z rfl (by simp [pureL_cons, pureL_nil, D.pure, Lid.enc]) ho rfl
theorem cmp_ok {S0 : List Ob} {k : Nat} : CmpOk 12 S0 k (.func 118 [] []) cmpL := fun n hn d T _ st x y => by
  rw [callVZ rfl]
  exact cl_c hn x y st T
/-! ### Sorting -/
def isI (o : Option (D × List Ob)) : Bool := match o with
  | some (.int .i64 _, _) => true
  | _ => false
theorem isI_spec {o : Option (D × List Ob)} (h : isI o = true) : ∃ v T, o = some (.int .i64 v, T) := by
  unfold isI at h
  split at h
  · exact ⟨_, _, rfl⟩
  · cases h
theorem len_all : (List.range 13).all (fun n => isI (dcall E0 60 148 [.int .u64 n] [])) = true := by kernel_rfl
theorem len_c {n m : Nat} (hn : 60 ≤ n) (hm : m ≤ 12) : ∃ v : Int, ∀ st S, callD E0 (dcall E0 n) st S 148 [.int .u64 m] = some (.int .i64 v, S) := by
  obtain ⟨v, T, h⟩ := isI_spec (List.all_eq_true.1 len_all m (List.mem_range.2 (by omega)))
  refine ⟨v, fun st S => ?_⟩
  exact pure0Z rfl rfl (dcall_le (by omega) _ _ _ _ h) rfl
set_option maxHeartbeats 4000000 in
set_option maxRecDepth 100000 in
theorem pdq_d {n n0 : Nat} {x : Bool} {lim : Int} (hC : CmpOk n0 S0 k cf c) (hn : n0 + d.size + 10 ≤ n) (hz : d.size ≤ 12) (h : R S0 k d T) :
    WO (dcall E0 (n + 1) 147 [.os k 0 d.size x, .int .i64 0, .int .i64 d.size, .int .i64 lim, cf] T) fun _ T' => R S0 k (Sort.insertionSort (lt c) d 0 d.size) T' := by
  obtain ⟨m, rfl⟩ : ∃ m, n = m + 1 := ⟨n - 1, by omega⟩
  obtain ⟨r, T1, c1, r1⟩ := ins_d (x := x) (n := m) (lo := 0) (hi := d.size) hC (by omega) (by omega) (Nat.le_refl _) (by omega) h
  have c1 := (ownZ (f := 160) rfl pure_own).trans c1
  rw [Int.natCast_zero] at c1
  have hle : (d.size : Int) ≤ 12 := by omega
  refine wo_dcall Tryz.func147 rfl (by decide) rfl 148 rfl (fun a hal ha => ?_)
  have h0 : a[0]? = some (.os k 0 d.size x) := ha 0 (by simp)
  have h1 : a[1]? = some (.int .i64 0) := ha 1 (by simp)
  have h2 : a[2]? = some (.int .i64 d.size) := ha 2 (by simp)
  have h3 : a[3]? = some (.int .i64 lim) := ha 3 (by simp)
  have h4 : a[4]? = some (cf) := ha 4 (by simp)
  clear ha
  simp (maxSteps := 1000000) (disch := omega) only [push_cast, ↓wc_seq, ↓wc_block, ↓wc_region, ↓wr_cons, ↓wr_nil, ↓wc_wl, wo_some, opQ_eq, seqQ_normal, Nat.reduceAdd, Nat.reduceMul, ↓reduceIte, planIds, List.contains_cons, List.contains_nil, Nat.reduceBEq, Nat.zero_add]
  refine wl_loop (fun i a T' => T' = T ∧ a.length = 148 ∧ a[0]? = some (.os k 0 d.size x) ∧ a[1]? = some (.int .i64 0) ∧ a[2]? = some (.int .i64 d.size) ∧ a[3]? = some (.int .i64 lim) ∧ a[4]? = some (cf)) 1 ?_ (by omega) ?_
  · simp (maxSteps := 1000000) (disch := omega) only [push_cast, Nat.reduceEqDiff, ↓reduceIte, setC, List.length_set, reduceCtorEq, eq_self, hal, h0, h1, h2, h3, h4]
  clear hal h0 h1 h2 h3 h4 a
  rintro i a T' hi ⟨hT', hal, h0, h1, h2, h3, h4⟩
  subst hT'
  have hs0 : IntKind.i64.wrap ((d.size : Int) - 0) = (d.size : Int) := by rw [wrap_ok (by omega) (by omega)]; omega
  simp (maxSteps := 1000000) (disch := omega) only [push_cast, ↓wc_seq, ↓wc_block, ↓wc_condL, ↓wc_region, ↓wr_cons, ↓wr_nil, ↓wo_callf, ↓wc_ret, wo_some, opQ_eq, seqQ_normal, seqQ_ret, blockQ_ret, iterQ_ret, retQ_ret, pickC_true, Nat.reduceAdd, Nat.reduceMul, Nat.reduceLT, Nat.reduceEqDiff, ↓reduceIte, planIds, hasExt, cntFs, idxFs, clnFs, ovlFs, List.contains_cons, List.contains_nil, List.any_cons, List.any_nil, Nat.reduceBEq, setC, List.length_set, reduceCtorEq, eq_self, Nat.zero_add, hal, h0, h1, h2, h4, hs0, hle, c1, Tryz.f147]
  exact r1
set_option maxHeartbeats 4000000 in
set_option maxRecDepth 100000 in
theorem sort_d {n n0 : Nat} {x : Bool} (hC : CmpOk n0 S0 k cf c) (hn : n0 + d.size + 70 ≤ n) (hz : d.size ≤ 12) (h : R S0 k d T) :
    WO (dcall E0 (n + 1) 117 [.os k 0 d.size x, cf] T) fun _ T' => R S0 k (Sort.insertionSort (lt c) d 0 d.size) T' := by
  obtain ⟨m, rfl⟩ : ∃ m, n = m + 1 := ⟨n - 1, by omega⟩
  obtain ⟨v, bl⟩ := len_c (n := m + 1) (m := d.size) (by omega) hz
  obtain ⟨r, T1, c1, r1⟩ := pdq_d (x := x) (n := m) (lim := v) hC (by omega) hz h
  have c1 := (ownZ (f := 147) rfl pure_own).trans c1
  have w1 : IntKind.u64.wrap (d.size : Int) = (d.size : Int) := by
    show ((d.size : Int)) % 18446744073709551616 = d.size
    omega
  refine wo_dcall Tryz.func117 rfl (by decide) rfl 14 rfl (fun a hal ha => ?_)
  have h0 : a[0]? = some (.os k 0 d.size x) := ha 0 (by simp)
  have h1 : a[1]? = some (cf) := ha 1 (by simp)
  clear ha
  simp (maxSteps := 1000000) (disch := omega) only [push_cast, ↓wc_seq, ↓wc_region, ↓wr_cons, ↓wr_nil, ↓wo_callf, wo_some, opQ_eq, seqQ_normal, retQ_normal, Nat.reduceAdd, Nat.reduceMul, Nat.reduceLT, Nat.reduceEqDiff, ↓reduceIte, planIds, hasExt, cntFs, idxFs, clnFs, ovlFs, List.contains_cons, List.contains_nil, List.any_cons, List.any_nil, Nat.reduceBEq, setC, List.length_set, reduceCtorEq, eq_self, Nat.zero_add, hal, h0, h1, w1, bl, c1, Tryz.f117]
  exact r1
end Lg
end Go.Proofs.YtajhgnefcddenaaGreatDoor.Dm
