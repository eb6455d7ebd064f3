/-
  The machine at configurations: Find, Place, the program's and the reference's.
-/
import Derived.Test.YtajhgnefcddenaaGreatDoorSkT
namespace Go.Proofs.YtajhgnefcddenaaGreatDoor.Dm
open Go Gw
set_option linter.unusedSimpArgs false
set_option linter.unusedSimpArgs false

/-- Configurations of a bounded size. -/
structure Sm (c : Cfg) : Prop where
  cabs : c.cabs.length ≤ 30
  cls : ∀ y ∈ c.cabs, y.cls.length ≤ 30
theorem CfgOk.sm {c : Cfg} (h : CfgOk c) : Sm c := ⟨by have := h.l2; omega, fun y hy => by have := (h.cab y hy).l2; omega⟩
def zCfg : Cfg := ⟨ByteArray.mk #[], [], true⟩
def foundC : Option Cfg → D
  | some c => .tup [.agg c.enc, .bool true]
  | none => .tup [.agg [.str (ByteArray.mk #[]), .nils], .bool false]
theorem foundC_pure (o : Option Cfg) : (foundC o).pure = true := by
  cases o with
  | none => rfl
  | some c => simp only [foundC, D.pure, pureL_cons, pureL_nil, Cfg_pure, Bool.and_true]
theorem findF_drop {l : List Cfg} {e : ByteArray} {i : Nat} {c : Cfg} (h : l[i]? = some c) : findF (l.drop i) e = if c.equip = e then some c else findF (l.drop (i + 1)) e := by
  rw [drop_at h]
  unfold findF
  rw [List.find?_cons]
  by_cases q : c.equip = e
  · simp [q]
  · simp [q]
set_option maxHeartbeats 4000000 in
set_option maxRecDepth 100000 in
theorem Find_d {n : Nat} {l : List Cfg} {x : Bool} {e : ByteArray} (hn : 110 ≤ n) (hl : l.length ≤ 100) : WO (dcall E (n + 1) 90 [.sl 2 (l.map Cfg.enc) x, .str e] []) fun d _ => d = foundC (findF l e) := by
  refine wo_dcall Tryz.func90 rfl (by decide) rfl 21 rfl (fun a hal ha => ?_)
  have h0 : a[0]? = some (.sl 2 (l.map Cfg.enc) x) := ha 0 (by simp)
  have h1 : a[1]? = some (.str e) := ha 1 (by simp)
  clear ha
  simp (maxSteps := 1000000) (disch := omega) only [push_cast, ↓wc_seq, ↓wc_block, ↓wc_region, ↓wr_cons, ↓wr_nil, ↓wc_wl, wo_some, opQ_eq, seqQ_normal, Nat.reduceAdd, Nat.reduceMul, Nat.reduceLT, ↓reduceIte, planIds, List.contains_cons, List.contains_nil, Nat.reduceBEq, setC, List.length_set, reduceCtorEq, eq_self, Nat.zero_add, hal, h0]
  refine wl_loop (fun i a T => a.length = 21 ∧ a[1]? = some (.str e) ∧ a[4]? = some (.loc 0 0 0) ∧ a[8]? = some (.sl 2 (l.map Cfg.enc) x) ∧ a[9]? = some (.int .i64 l.length) ∧ a[10]? = some (.int .i64 i) ∧ T[0]? = some (.row 2 [[.str (ByteArray.mk #[]), .nils]]) ∧ findF l e = findF (l.drop i) e) l.length ?_ (by omega) ?_
  · simp (maxSteps := 1000000) (disch := omega) only [push_cast, Nat.reduceLT, Nat.reduceEqDiff, ↓reduceIte, setC, List.length_set, eq_self, hal, h1, Int.natCast_zero, List.length_map]
  clear hal h0 h1 a
  rintro i a T hi ⟨hal, h1, h4, h8, h9, h10, hr, hv⟩
  have hlT : 0 < T.length := (List.getElem?_eq_some_iff.1 hr).1
  rcases Nat.lt_or_eq_of_le hi with hlt | rfl
  · obtain ⟨c, hc⟩ : ∃ c, l[i]? = some c := ⟨l[i], by simp [hlt]⟩
    rw [findF_drop hc] at hv
    have hr2 : (T ++ [Ob.row 2 [c.enc]])[0]? = some (.row 2 [[.str (ByteArray.mk #[]), .nils]]) := get_old hr
    have hne : (T.length = 0) = False := eq_false (by omega)
    by_cases q : c.equip = e
    · rw [if_pos q] at hv
      subst q
      simp only [Cfg.enc] at hr2
      simp (maxSteps := 1000000) (disch := omega) only [push_cast, ↓wc_seq, ↓wc_block, ↓wc_condL, ↓wc_region, ↓wr_cons, ↓wr_nil, ↓wc_ret, ↓wc_skip, wo_some, opQ_eq, seqQ_normal, seqQ_ret, blockQ_ret, iterQ_ret, retQ_ret, pickC_true, Nat.reduceAdd, Nat.reduceMul, Nat.reduceLT, Nat.reduceLeDiff, Nat.reduceEqDiff, ↓reduceIte, planIds, List.contains_cons, List.contains_nil, Nat.reduceBEq, setC, List.length_set, eq_self, Int.natCast_nonneg, Int.toNat_natCast, Int.ofNat_lt, Nat.zero_add, Nat.add_zero, hal, h1, h4, h8, h9, h10, hlt, hc, List.getElem?_map, Cfg.enc, set_end, get_end, hr2, hv, foundC, str_eq, List.length_append, Nat.lt_add_right, Tryz.f90]
    · rw [if_neg q] at hv
      simp (maxSteps := 1000000) (disch := omega) only [push_cast, ↓wc_seq, ↓wc_block, ↓wc_condL, ↓wc_region, ↓wr_cons, ↓wr_nil, ↓wc_skip, wo_some, opQ_eq, seqQ_normal, blockQ_normal, iterQ_normal, pickC_true, pickC_false, Nat.reduceAdd, Nat.reduceMul, Nat.reduceLT, Nat.reduceLeDiff, Nat.reduceEqDiff, ↓reduceIte, planIds, List.contains_cons, List.contains_nil, Nat.reduceBEq, setC, List.length_set, eq_self, Int.natCast_nonneg, Int.toNat_natCast, Int.ofNat_lt, Nat.zero_add, Nat.add_zero, hal, h1, h4, h8, h9, h10, hlt, hc, List.getElem?_map, Cfg.enc, set_end, get_end, q, str_eq, wrap_ok, Int.natCast_add, Int.natCast_one]
      exact ⟨get_old hr, hv⟩
  · have hv : findF l e = none := by rw [hv, List.drop_length]; rfl
    simp (maxSteps := 1000000) (disch := omega) only [push_cast, ↓wc_seq, ↓wc_condL, ↓wc_region, ↓wr_cons, ↓wr_nil, ↓wc_exit, ↓wc_ret, wo_some, opQ_eq, seqQ_normal, seqQ_exit, blockQ_exit, iterQ_exit, retQ_ret, pickC_false, Nat.reduceAdd, Nat.reduceMul, Nat.reduceLT, Nat.reduceLeDiff, Nat.reduceEqDiff, ↓wo_build, evParts, ↓reduceIte, planIds, List.contains_cons, List.contains_nil, Nat.reduceBEq, setC, List.length_set, eq_self, Int.ofNat_lt, Nat.zero_add, hal, h4, h9, h10, Nat.lt_irrefl, hr, hlT, hv, foundC, Tryz.f90]
theorem Find_c {n : Nat} {l : List Cfg} {x : Bool} {e : ByteArray} (hn : 120 ≤ n) (hl : l.length ≤ 100) (st : Bool) (S : List Ob) : callD E (dcall E n) st S 90 [.sl 2 (l.map Cfg.enc) x, .str e] = some (foundC (findF l e), S) := by
  obtain ⟨m, rfl⟩ : ∃ m, n = m + 1 := ⟨n - 1, by omega⟩
  obtain ⟨d, T, ho, rfl⟩ := Find_d (n := m) (x := x) (e := e) (by omega) hl
  exact callD_pure rfl (by simp [pureL_cons, pureL_nil, D.pure, Cfgs_pure]) ho (freeze_pure (foundC_pure _))
def placeD : Option (Nat × Nat) → D
  | some (i, k) => .tup [.int .i64 i, .int .i64 k, .bool true]
  | none => .tup [.int .i64 0, .int .i64 0, .bool false]
theorem placeD_pure (o : Option (Nat × Nat)) : (placeD o).pure = true := by
  rcases o with _ | ⟨i, k⟩ <;> rfl
theorem placeF_drop {cl : ByteArray} {l : List Cab} {i : Nat} {y : Cab} (h : l[i]? = some y) : placeF cl i (l.drop i) = match rankF cl 0 y.cls with
    | some k => some (i, k)
    | none => placeF cl (i + 1) (l.drop (i + 1)) := by
  rw [drop_at h, placeF]
  rfl
theorem rankF_drop {cl : ByteArray} {l : List Cls} {i : Nat} {z : Cls} (h : l[i]? = some z) : rankF cl i (l.drop i) = if z.code = cl then some i else rankF cl (i + 1) (l.drop (i + 1)) := by
  rw [drop_at h, rankF]
set_option maxHeartbeats 4000000 in
set_option maxRecDepth 100000 in
theorem Place_d {n : Nat} {c : Cfg} {cl : ByteArray} (hn : 110 ≤ n) (hc : Sm c) : WO (dcall E (n + 1) 86 [.agg c.enc, .str cl] []) fun d _ => d = placeD (placeF cl 0 c.cabs) := by
  refine wo_dcall Tryz.func86 rfl (by decide) rfl 35 rfl (fun a hal ha => ?_)
  have h0 : a[0]? = some (.agg c.enc) := ha 0 (by simp)
  have h1 : a[1]? = some (.str cl) := ha 1 (by simp)
  clear ha
  have hl := hc.cabs
  simp only [Cfg.enc] at h0
  simp (maxSteps := 1000000) (disch := omega) only [push_cast, ↓wc_seq, ↓wc_block, ↓wc_region, ↓wr_cons, ↓wr_nil, ↓wc_wl, wo_some, opQ_eq, seqQ_normal, Nat.reduceAdd, Nat.reduceMul, Nat.reduceLT, Nat.reduceEqDiff, ↓reduceIte, planIds, List.contains_cons, List.contains_nil, Nat.reduceBEq, setC, List.length_set, eq_self, Nat.zero_add, hal, h0, List.length_map]
  refine wl_loop (fun i a T => a.length = 35 ∧ a[1]? = some (.str cl) ∧ a[12]? = some (.sl 4 (c.cabs.map Cab.enc) c.cabsx) ∧ a[13]? = some (.int .i64 c.cabs.length) ∧ a[14]? = some (.int .i64 i) ∧ placeF cl 0 c.cabs = placeF cl i (c.cabs.drop i)) c.cabs.length ?_ (by omega) ?_
  · simp (maxSteps := 1000000) (disch := omega) only [push_cast, Nat.reduceLT, Nat.reduceEqDiff, ↓reduceIte, setC, List.length_set, eq_self, hal, h1, Int.natCast_zero]
  clear hal h0 h1 a
  rintro i a T hi ⟨hal, h1, h12, h13, h14, hv⟩
  rcases Nat.lt_or_eq_of_le hi with hlt | rfl
  case inr =>
    have hv : placeF cl 0 c.cabs = none := by rw [hv, List.drop_length]; rfl
    simp (maxSteps := 1000000) (disch := omega) only [push_cast, ↓wc_seq, ↓wc_condL, ↓wc_region, ↓wr_cons, ↓wr_nil, ↓wc_exit, ↓wc_ret, wo_some, opQ_eq, seqQ_normal, seqQ_exit, blockQ_exit, iterQ_exit, retQ_ret, pickC_false, Nat.reduceAdd, Nat.reduceMul, Nat.reduceLT, Nat.reduceEqDiff, ↓reduceIte, planIds, List.contains_cons, List.contains_nil, Nat.reduceBEq, setC, List.length_set, eq_self, Int.ofNat_lt, Nat.zero_add, hal, h13, h14, Nat.lt_irrefl, hv, placeD, Tryz.f86]
  obtain ⟨y, hy⟩ : ∃ y, c.cabs[i]? = some y := ⟨c.cabs[i], by simp [hlt]⟩
  have hly := hc.cls y (List.mem_of_getElem? hy)
  rw [placeF_drop hy] at hv
  simp (maxSteps := 1000000) (disch := omega) only [push_cast, ↓wc_seq, ↓wc_block, ↓wc_condL, ↓wc_region, ↓wr_cons, ↓wr_nil, ↓wc_skip, ↓wc_wl, wo_some, opQ_eq, seqQ_normal, pickC_true, Nat.reduceAdd, Nat.reduceMul, Nat.reduceLT, Nat.reduceLeDiff, Nat.reduceEqDiff, ↓reduceIte, planIds, List.contains_cons, List.contains_nil, Nat.reduceBEq, setC, List.length_set, eq_self, Int.natCast_nonneg, Int.toNat_natCast, Int.ofNat_lt, Nat.zero_add, hal, h12, h13, h14, hlt, hy, List.length_map, List.getElem?_map, Cab.enc, set_end, get_end]
  refine wl_loop (fun k a T => a.length = 35 ∧ a[1]? = some (.str cl) ∧ a[7]? = some (.int .i64 i) ∧ a[12]? = some (.sl 4 (c.cabs.map Cab.enc) c.cabsx) ∧ a[13]? = some (.int .i64 c.cabs.length) ∧ a[14]? = some (.int .i64 i) ∧ a[20]? = some (.sl 2 (y.cls.map Cls.enc) y.clsx) ∧ a[21]? = some (.int .i64 y.cls.length) ∧ a[22]? = some (.int .i64 k) ∧ rankF cl 0 y.cls = rankF cl k (y.cls.drop k)) y.cls.length ?_ (by omega) ?_
  · simp (maxSteps := 1000000) (disch := omega) only [push_cast, Nat.reduceLT, Nat.reduceEqDiff, ↓reduceIte, setC, List.length_set, eq_self, hal, h1, h12, h13, h14, Int.natCast_zero]
  clear hal h1 h12 h13 h14 a
  rintro k a T hk ⟨hal, h1, h7, h12, h13, h14, h20, h21, h22, hw⟩
  rcases Nat.lt_or_eq_of_le hk with hlk | rfl
  case inr =>
    have hw : rankF cl 0 y.cls = none := by rw [hw, List.drop_length]; rfl
    rw [hw] at hv
    simp (maxSteps := 1000000) (disch := omega) only [push_cast, ↓wc_seq, ↓wc_condL, ↓wc_region, ↓wr_cons, ↓wr_nil, ↓wc_exit, wo_some, opQ_eq, seqQ_normal, seqQ_exit, blockQ_normal, blockQ_exit, iterQ_normal, iterQ_exit, pickC_false, Nat.reduceAdd, Nat.reduceMul, Nat.reduceLT, Nat.reduceEqDiff, ↓reduceIte, planIds, List.contains_cons, List.contains_nil, Nat.reduceBEq, setC, List.length_set, eq_self, Int.ofNat_lt, Nat.zero_add, hal, h1, h12, h13, h14, h21, h22, Nat.lt_irrefl, hlt, wrap_ok, Int.natCast_add, Int.natCast_one]
    exact hv
  obtain ⟨z, hz⟩ : ∃ z, y.cls[k]? = some z := ⟨y.cls[k], by simp [hlk]⟩
  rw [rankF_drop hz] at hw
  by_cases q : z.code = cl
  · subst q
    rw [if_pos rfl] at hw
    rw [hw] at hv
    simp (maxSteps := 1000000) (disch := omega) only [push_cast, ↓wc_seq, ↓wc_block, ↓wc_condL, ↓wc_region, ↓wr_cons, ↓wr_nil, ↓wc_ret, ↓wc_skip, wo_some, opQ_eq, seqQ_normal, seqQ_ret, blockQ_ret, iterQ_ret, retQ_ret, pickC_true, Nat.reduceAdd, Nat.reduceMul, Nat.reduceLT, Nat.reduceLeDiff, Nat.reduceEqDiff, ↓reduceIte, planIds, List.contains_cons, List.contains_nil, Nat.reduceBEq, setC, List.length_set, eq_self, Int.natCast_nonneg, Int.toNat_natCast, Int.ofNat_lt, Nat.zero_add, Nat.add_zero, hal, h1, h7, h20, h21, h22, hlk, hz, List.getElem?_map, Cls.enc, set_end, get_end, hv, placeD, str_eq, Tryz.f86]
  · rw [if_neg q] at hw
    simp (maxSteps := 1000000) (disch := omega) only [push_cast, ↓wc_seq, ↓wc_block, ↓wc_condL, ↓wc_region, ↓wr_cons, ↓wr_nil, ↓wc_skip, wo_some, opQ_eq, seqQ_normal, blockQ_normal, iterQ_normal, pickC_true, pickC_false, Nat.reduceAdd, Nat.reduceMul, Nat.reduceLT, Nat.reduceLeDiff, Nat.reduceEqDiff, ↓reduceIte, planIds, List.contains_cons, List.contains_nil, Nat.reduceBEq, setC, List.length_set, eq_self, Int.natCast_nonneg, Int.toNat_natCast, Int.ofNat_lt, Nat.zero_add, Nat.add_zero, hal, h1, h7, h12, h13, h14, h20, h21, h22, hlk, hz, List.getElem?_map, Cls.enc, set_end, get_end, q, str_eq, wrap_ok, Int.natCast_add, Int.natCast_one]
    exact hw
theorem Place_c {n : Nat} {c : Cfg} {cl : ByteArray} (hn : 120 ≤ n) (hc : Sm c) (st : Bool) (S : List Ob) : callD E (dcall E n) st S 86 [.agg c.enc, .str cl] = some (placeD (placeF cl 0 c.cabs), S) := by
  obtain ⟨m, rfl⟩ : ∃ m, n = m + 1 := ⟨n - 1, by omega⟩
  obtain ⟨d, T, ho, rfl⟩ := Place_d (n := m) (cl := cl) (by omega) hc
  exact callD_pure rfl (by simp [pureL_cons, pureL_nil, D.pure, Cfg_pure]) ho (freeze_pure (placeD_pure _))
set_option maxHeartbeats 4000000 in
set_option maxRecDepth 100000 in
theorem rFind_d {n : Nat} {l : List Cfg} {x : Bool} {e : ByteArray} (hn : 110 ≤ n) (hl : l.length ≤ 100) : WO (dcall E (n + 1) 106 [.sl 2 (l.map Cfg.enc) x, .str e] []) fun d _ => d = foundC (findF l e) := by
  refine wo_dcall Tryz.func106 rfl (by decide) rfl 25 rfl (fun a hal ha => ?_)
  have h0 : a[0]? = some (.sl 2 (l.map Cfg.enc) x) := ha 0 (by simp)
  have h1 : a[1]? = some (.str e) := ha 1 (by simp)
  clear ha
  simp (maxSteps := 1000000) (disch := omega) only [push_cast, ↓wc_seq, ↓wc_block, ↓wc_region, ↓wr_cons, ↓wr_nil, ↓wc_wl, wo_some, opQ_eq, seqQ_normal, Nat.reduceAdd, Nat.reduceMul, ↓reduceIte, planIds, List.contains_cons, List.contains_nil, Nat.reduceBEq, eq_self, Nat.zero_add]
  refine wl_loop (fun i a T => T = [Ob.row 2 [[.str (ByteArray.mk #[]), .nils]]] ∧ a.length = 25 ∧ a[0]? = some (.sl 2 (l.map Cfg.enc) x) ∧ a[1]? = some (.str e) ∧ a[4]? = some (.loc 0 0 0) ∧ a[6]? = some (.int .i64 i) ∧ findF l e = findF (l.drop i) e) l.length ?_ (by omega) ?_
  · simp (maxSteps := 1000000) (disch := omega) only [push_cast, Nat.reduceLT, Nat.reduceEqDiff, ↓reduceIte, setC, List.length_set, reduceCtorEq, eq_self, hal, h0, h1, Int.natCast_zero]
  clear hal h0 h1 a
  rintro i a T hi ⟨rfl, hal, h0, h1, h4, h6, hv⟩
  rcases Nat.lt_or_eq_of_le hi with hlt | rfl
  · obtain ⟨c, hc⟩ : ∃ c, l[i]? = some c := ⟨l[i], by simp [hlt]⟩
    rw [findF_drop hc] at hv
    by_cases q : c.equip = e
    · rw [if_pos q] at hv
      subst q
      simp (maxSteps := 1000000) (disch := omega) only [push_cast, ↓wc_seq, ↓wc_block, ↓wc_condL, ↓wc_region, ↓wr_cons, ↓wr_nil, ↓wc_ret, ↓wc_skip, wo_some, opQ_eq, seqQ_normal, seqQ_ret, blockQ_ret, iterQ_ret, retQ_ret, pickC_true, Nat.reduceAdd, Nat.reduceMul, Nat.reduceLT, Nat.reduceLeDiff, Nat.reduceEqDiff, ↓reduceIte, planIds, List.contains_cons, List.contains_nil, Nat.reduceBEq, setC, List.length_set, reduceCtorEq, eq_self, Int.natCast_nonneg, Int.toNat_natCast, Int.ofNat_lt, Nat.zero_add, Nat.add_zero, hal, h0, h1, h4, h6, hlt, hc, List.length_map, List.getElem?_map, Cfg.enc, hv, foundC, str_eq, Tryz.f106]
    · rw [if_neg q] at hv
      simp (maxSteps := 1000000) (disch := omega) only [push_cast, ↓wc_seq, ↓wc_block, ↓wc_condL, ↓wc_region, ↓wr_cons, ↓wr_nil, ↓wc_skip, wo_some, opQ_eq, seqQ_normal, blockQ_normal, iterQ_normal, pickC_true, pickC_false, Nat.reduceAdd, Nat.reduceMul, Nat.reduceLT, Nat.reduceEqDiff, ↓reduceIte, planIds, List.contains_cons, List.contains_nil, Nat.reduceBEq, setC, List.length_set, reduceCtorEq, eq_self, Int.natCast_nonneg, Int.toNat_natCast, Int.ofNat_lt, Nat.zero_add, Nat.add_zero, hal, h0, h1, h4, h6, hlt, hc, List.length_map, List.getElem?_map, Cfg.enc, q, str_eq, wrap_ok, Int.natCast_add, Int.natCast_one]
      exact hv
  · have hv : findF l e = none := by rw [hv, List.drop_length]; rfl
    simp (maxSteps := 1000000) (disch := omega) only [push_cast, ↓wc_seq, ↓wc_condL, ↓wc_region, ↓wr_cons, ↓wr_nil, ↓wc_exit, ↓wc_ret, wo_some, opQ_eq, seqQ_normal, seqQ_exit, blockQ_exit, iterQ_exit, retQ_ret, pickC_false, Nat.reduceAdd, Nat.reduceMul, Nat.reduceLT, Nat.reduceLeDiff, Nat.reduceEqDiff, ↓wo_build, evParts, ↓reduceIte, planIds, List.contains_cons, List.contains_nil, Nat.reduceBEq, setC, List.length_set, reduceCtorEq, eq_self, Int.ofNat_lt, Nat.zero_add, hal, h0, h4, h6, Nat.lt_irrefl, List.length_map, hv, foundC, Tryz.f106]
theorem rFind_c {n : Nat} {l : List Cfg} {x : Bool} {e : ByteArray} (hn : 120 ≤ n) (hl : l.length ≤ 100) (st : Bool) (S : List Ob) : callD E (dcall E n) st S 106 [.sl 2 (l.map Cfg.enc) x, .str e] = some (foundC (findF l e), S) := by
  obtain ⟨m, rfl⟩ : ∃ m, n = m + 1 := ⟨n - 1, by omega⟩
  obtain ⟨d, T, ho, rfl⟩ := rFind_d (n := m) (x := x) (e := e) (by omega) hl
  exact callD_pure rfl (by simp [pureL_cons, pureL_nil, D.pure, Cfgs_pure]) ho (freeze_pure (foundC_pure _))
set_option maxHeartbeats 4000000 in
set_option maxRecDepth 100000 in
theorem rPlace_d {n : Nat} {c : Cfg} {cl : ByteArray} (hn : 110 ≤ n) (hc : Sm c) : WO (dcall E (n + 1) 60 [.agg c.enc, .str cl] []) fun d _ => d = placeD (placeF cl 0 c.cabs) := by
  refine wo_dcall Tryz.func60 rfl (by decide) rfl 41 rfl (fun a hal ha => ?_)
  have h0 : a[0]? = some (.agg c.enc) := ha 0 (by simp)
  have h1 : a[1]? = some (.str cl) := ha 1 (by simp)
  clear ha
  have hl := hc.cabs
  simp only [Cfg.enc] at h0
  simp (maxSteps := 1000000) (disch := omega) only [push_cast, ↓wc_seq, ↓wc_block, ↓wc_region, ↓wr_cons, ↓wr_nil, ↓wc_wl, wo_some, opQ_eq, seqQ_normal, Nat.reduceAdd, Nat.reduceMul, ↓reduceIte, planIds, List.contains_cons, List.contains_nil, Nat.reduceBEq, eq_self, Nat.zero_add, h0]
  refine wl_loop (fun i a T => T = [Ob.row 2 [[.str c.equip, .sl 4 (c.cabs.map Cab.enc) c.cabsx]]] ∧ a.length = 41 ∧ a[1]? = some (.str cl) ∧ a[2]? = some (.loc 0 0 0) ∧ a[7]? = some (.int .i64 i) ∧ placeF cl 0 c.cabs = placeF cl i (c.cabs.drop i)) c.cabs.length ?_ (by omega) ?_
  · simp (maxSteps := 1000000) (disch := omega) only [push_cast, Nat.reduceLT, Nat.reduceEqDiff, ↓reduceIte, setC, List.length_set, eq_self, hal, h1, Int.natCast_zero]
  clear hal h0 h1 a
  rintro i a T hi ⟨rfl, hal, h1, h2, h7, hv⟩
  rcases Nat.lt_or_eq_of_le hi with hlt | rfl
  case inr =>
    have hv : placeF cl 0 c.cabs = none := by rw [hv, List.drop_length]; rfl
    simp (maxSteps := 1000000) (disch := omega) only [push_cast, ↓wc_seq, ↓wc_condL, ↓wc_region, ↓wr_cons, ↓wr_nil, ↓wc_exit, ↓wc_ret, wo_some, opQ_eq, seqQ_normal, seqQ_exit, blockQ_exit, iterQ_exit, retQ_ret, pickC_false, Nat.reduceAdd, Nat.reduceMul, Nat.reduceLT, Nat.reduceEqDiff, ↓reduceIte, planIds, List.contains_cons, List.contains_nil, Nat.reduceBEq, setC, List.length_set, eq_self, Int.ofNat_lt, Nat.zero_add, hal, h2, h7, Nat.lt_irrefl, List.length_map, hv, placeD, Tryz.f60]
  obtain ⟨y, hy⟩ : ∃ y, c.cabs[i]? = some y := ⟨c.cabs[i], by simp [hlt]⟩
  have hly := hc.cls y (List.mem_of_getElem? hy)
  rw [placeF_drop hy] at hv
  simp (maxSteps := 1000000) (disch := omega) only [push_cast, ↓wc_seq, ↓wc_block, ↓wc_condL, ↓wc_region, ↓wr_cons, ↓wr_nil, ↓wc_skip, ↓wc_wl, wo_some, opQ_eq, seqQ_normal, pickC_true, Nat.reduceAdd, Nat.reduceMul, Nat.reduceLT, Nat.reduceEqDiff, ↓reduceIte, planIds, List.contains_cons, List.contains_nil, Nat.reduceBEq, setC, List.length_set, eq_self, Int.ofNat_lt, Nat.zero_add, hal, h2, h7, hlt, List.length_map]
  refine wl_loop (fun k a T => T = [Ob.row 2 [[.str c.equip, .sl 4 (c.cabs.map Cab.enc) c.cabsx]]] ∧ a.length = 41 ∧ a[1]? = some (.str cl) ∧ a[2]? = some (.loc 0 0 0) ∧ a[7]? = some (.int .i64 i) ∧ a[8]? = some (.int .i64 k) ∧ rankF cl 0 y.cls = rankF cl k (y.cls.drop k)) y.cls.length ?_ (by omega) ?_
  · simp (maxSteps := 1000000) (disch := omega) only [push_cast, Nat.reduceLT, Nat.reduceEqDiff, ↓reduceIte, setC, List.length_set, eq_self, hal, h1, h2, h7, Int.natCast_zero]
  clear hal h1 h2 h7 a
  rintro k a T hk ⟨rfl, hal, h1, h2, h7, h8, hw⟩
  rcases Nat.lt_or_eq_of_le hk with hlk | rfl
  case inr =>
    have hw : rankF cl 0 y.cls = none := by rw [hw, List.drop_length]; rfl
    rw [hw] at hv
    simp (maxSteps := 1000000) (disch := omega) only [push_cast, ↓wc_seq, ↓wc_condL, ↓wc_region, ↓wr_cons, ↓wr_nil, ↓wc_exit, wo_some, opQ_eq, seqQ_normal, seqQ_exit, blockQ_normal, blockQ_exit, iterQ_normal, iterQ_exit, pickC_false, Nat.reduceAdd, Nat.reduceMul, Nat.reduceLT, Nat.reduceEqDiff, ↓reduceIte, planIds, List.contains_cons, List.contains_nil, Nat.reduceBEq, setC, List.length_set, eq_self, Int.natCast_nonneg, Int.toNat_natCast, Int.ofNat_lt, Nat.zero_add, hal, h1, h2, h7, h8, Nat.lt_irrefl, hlt, hy, List.length_map, List.getElem?_map, Cab.enc, wrap_ok, Int.natCast_add, Int.natCast_one]
    exact hv
  obtain ⟨z, hz⟩ : ∃ z, y.cls[k]? = some z := ⟨y.cls[k], by simp [hlk]⟩
  rw [rankF_drop hz] at hw
  by_cases q : z.code = cl
  · subst q
    rw [if_pos rfl] at hw
    rw [hw] at hv
    simp (maxSteps := 1000000) (disch := omega) only [push_cast, ↓wc_seq, ↓wc_block, ↓wc_condL, ↓wc_region, ↓wr_cons, ↓wr_nil, ↓wc_ret, ↓wc_skip, wo_some, opQ_eq, seqQ_normal, seqQ_ret, blockQ_ret, iterQ_ret, retQ_ret, pickC_true, Nat.reduceAdd, Nat.reduceMul, Nat.reduceLT, Nat.reduceEqDiff, ↓reduceIte, planIds, List.contains_cons, List.contains_nil, Nat.reduceBEq, setC, List.length_set, eq_self, Int.natCast_nonneg, Int.toNat_natCast, Int.ofNat_lt, Nat.zero_add, Nat.add_zero, hal, h1, h2, h7, h8, hlk, hz, hy, List.length_map, List.getElem?_map, Cab.enc, Cls.enc, hv, placeD, str_eq, Tryz.f60]
  · rw [if_neg q] at hw
    simp (maxSteps := 1000000) (disch := omega) only [push_cast, ↓wc_seq, ↓wc_block, ↓wc_condL, ↓wc_region, ↓wr_cons, ↓wr_nil, ↓wc_skip, wo_some, opQ_eq, seqQ_normal, blockQ_normal, iterQ_normal, pickC_true, pickC_false, Nat.reduceAdd, Nat.reduceMul, Nat.reduceLT, Nat.reduceEqDiff, ↓reduceIte, planIds, List.contains_cons, List.contains_nil, Nat.reduceBEq, setC, List.length_set, eq_self, Int.natCast_nonneg, Int.toNat_natCast, Int.ofNat_lt, Nat.zero_add, Nat.add_zero, hal, h1, h2, h7, h8, hlk, hz, hy, List.length_map, List.getElem?_map, Cab.enc, Cls.enc, q, str_eq, wrap_ok, Int.natCast_add, Int.natCast_one]
    exact hw
theorem rPlace_c {n : Nat} {c : Cfg} {cl : ByteArray} (hn : 120 ≤ n) (hc : Sm c) (st : Bool) (S : List Ob) : callD E (dcall E n) st S 60 [.agg c.enc, .str cl] = some (placeD (placeF cl 0 c.cabs), S) := by
  obtain ⟨m, rfl⟩ : ∃ m, n = m + 1 := ⟨n - 1, by omega⟩
  obtain ⟨d, T, ho, rfl⟩ := rPlace_d (n := m) (cl := cl) (by omega) hc
  exact callD_pure rfl (by simp [pureL_cons, pureL_nil, D.pure, Cfg_pure]) ho (freeze_pure (placeD_pure _))

/-! ### What may be sold in a cabin, and which class takes the place of a class -/
theorem Auth_c {n : Nat} (hn : 1 ≤ n) {y : Cab} (h1 : -1000000 ≤ y.seats) (h2 : y.seats ≤ 1000000) (h3 : -1000000 ≤ y.over) (h4 : y.over ≤ 1000000) (st : Bool) (S : List Ob) : callD E (dcall E n) st S 114 [.agg y.enc] = some (.int .i64 (autF y), S) := by
  obtain ⟨m, rfl⟩ : ∃ m, n = m + 1 := ⟨n - 1, by omega⟩
  have : WO (dcall E (m + 1) 114 [.agg y.enc] []) fun d T => d = .int .i64 (autF y) := by
    refine wo_dcall Tryz.func114 rfl (by decide) rfl 8 rfl (fun a hal ha => ?_)
    have h0 : a[0]? = some (.agg y.enc) := ha 0 (by simp)
    clear ha
    simp only [Cab.enc] at h0
    simp (maxSteps := 1000000) (disch := omega) only [push_cast, ↓wc_seq, ↓wc_region, ↓wr_cons, ↓wr_nil, ↓wc_ret, wo_some, opQ_eq, seqQ_normal, retQ_ret, Nat.reduceAdd, Nat.reduceMul, Nat.reduceLT, Nat.reduceEqDiff, ↓reduceIte, planIds, List.contains_cons, List.contains_nil, Nat.reduceBEq, setC, List.length_set, eq_self, Nat.zero_add, hal, h0, autF, wrap_ok, Tryz.f114]
  obtain ⟨d, T, ho, rfl⟩ := this
  exact callD_pure rfl (by simp [pureL_cons, pureL_nil, D.pure, Cab_pure]) ho rfl
theorem rAuth_c {n : Nat} (hn : 1 ≤ n) {y : Cab} (h1 : -1000000 ≤ y.seats) (h2 : y.seats ≤ 1000000) (h3 : -1000000 ≤ y.over) (h4 : y.over ≤ 1000000) (st : Bool) (S : List Ob) : callD E (dcall E n) st S 122 [.agg y.enc] = some (.int .i64 (autF y), S) := by
  obtain ⟨m, rfl⟩ : ∃ m, n = m + 1 := ⟨n - 1, by omega⟩
  have : WO (dcall E (m + 1) 122 [.agg y.enc] []) fun d T => d = .int .i64 (autF y) := by
    refine wo_dcall Tryz.func122 rfl (by decide) rfl 8 rfl (fun a hal ha => ?_)
    have h0 : a[0]? = some (.agg y.enc) := ha 0 (by simp)
    clear ha
    simp only [Cab.enc] at h0
    simp (maxSteps := 1000000) (disch := omega) only [push_cast, ↓wc_seq, ↓wc_region, ↓wr_cons, ↓wr_nil, ↓wc_ret, wo_some, opQ_eq, seqQ_normal, retQ_ret, Nat.reduceAdd, Nat.reduceMul, Nat.reduceLT, Nat.reduceEqDiff, ↓reduceIte, planIds, List.contains_cons, List.contains_nil, Nat.reduceBEq, setC, List.length_set, eq_self, Nat.zero_add, hal, h0, autF, wrap_ok, Tryz.f122]
  obtain ⟨d, T, ho, rfl⟩ := this
  exact callD_pure rfl (by simp [pureL_cons, pureL_nil, D.pure, Cab_pure]) ho rfl
def likeD : Option ByteArray → D
  | some s => .tup [.str s, .bool true]
  | none => .tup [.str (ByteArray.mk #[]), .bool false]
theorem likeD_pure (o : Option ByteArray) : (likeD o).pure = true := by cases o <;> rfl
set_option maxHeartbeats 4000000 in
set_option maxRecDepth 100000 in
theorem Like_c {n : Nat} {a b : Cfg} {cl : ByteArray} (hn : 130 ≤ n) (ha : Sm a) (hb : Sm b) (st : Bool) (S : List Ob) : callD E (dcall E n) st S 115 [.agg a.enc, .agg b.enc, .str cl] = some (likeD (likeF a.cabs b.cabs cl), S) := by
  obtain ⟨m, rfl⟩ : ∃ m, n = m + 1 := ⟨n - 1, by omega⟩
  have ca := Place_c (n := m) (cl := cl) (by omega) ha
  have cb := Place_c (n := m) (cl := cl) (by omega) hb
  have hlb := hb.cabs
  have : WO (dcall E (m + 1) 115 [.agg a.enc, .agg b.enc, .str cl] []) fun d T => d = likeD (likeF a.cabs b.cabs cl) := by
    obtain ⟨ae, ac, ax⟩ := a
    obtain ⟨be, bc, bx⟩ := b
    refine wo_dcall Tryz.func115 rfl (by decide) rfl 64 rfl (fun a hal ha => ?_)
    have h0 : a[0]? = some (.agg (Cfg.enc ⟨ae, ac, ax⟩)) := ha 0 (by simp)
    have h1 : a[1]? = some (.agg (Cfg.enc ⟨be, bc, bx⟩)) := ha 1 (by simp)
    have h2 : a[2]? = some (.str cl) := ha 2 (by simp)
    clear ha
    simp only [Cfg.enc] at h0 h1 ca cb hlb
    unfold likeF
    rcases pa : placeF cl 0 ac with _ | ⟨i, k⟩
    · rw [pa] at ca
      simp only [placeD] at ca
      simp (maxSteps := 1000000) (disch := omega) only [push_cast, ↓wc_seq, ↓wc_condL, ↓wc_region, ↓wr_cons, ↓wr_nil, ↓wo_callf, ↓wc_ret, wo_some, opQ_eq, seqQ_normal, seqQ_ret, retQ_ret, pickC_true, Nat.reduceAdd, Nat.reduceMul, Nat.reduceLT, Nat.reduceLeDiff, Nat.reduceEqDiff, ↓reduceIte, planIds, hasExt, cntFs, idxFs, clnFs, ovlFs, List.contains_cons, List.contains_nil, List.any_cons, List.any_nil, Nat.reduceBEq, setC, List.length_set, eq_self, Nat.zero_add, hal, h0, h1, h2, ca, likeD, Tryz.f115]
    rw [pa] at ca
    rcases pb : placeF cl 0 bc with _ | ⟨i', k'⟩
    · rw [pb] at cb
      simp only [placeD] at ca cb
      by_cases hb0 : bc.length = 0
      · have : bc = [] := List.eq_nil_of_length_eq_zero hb0
        subst this
        simp only [List.map_nil] at cb
        have q : (if (-1 : Int) < (i : Int) then (-1 : Int) else i) = -1 := if_pos (by omega)
        simp (maxSteps := 1000000) (disch := omega) only [push_cast, ↓wc_seq, ↓wc_condL, ↓wc_region, ↓wr_cons, ↓wr_consgL, ↓wr_nil, ↓wo_pickL, ↓wo_callf, ↓wc_ret, ↓wc_skip, wo_some, opQ_eq, seqQ_normal, seqQ_ret, retQ_ret, pickC_true, pickC_false, pickO_true, gstep_tf, Nat.reduceAdd, Nat.reduceMul, Nat.reduceSub, Nat.reduceLT, Nat.reduceLeDiff, Nat.reduceEqDiff, Int.reduceSub, Int.reduceNeg, Int.reduceLT, ↓reduceIte, planIds, hasExt, cntFs, idxFs, clnFs, ovlFs, List.contains_cons, List.contains_nil, List.any_cons, List.any_nil, Nat.reduceBEq, setC, List.length_set, eq_self, Nat.zero_add, hal, h0, h1, h2, ca, cb, likeD, q, wrap_ok, List.getElem?_nil, Int.natCast_zero, Tryz.f115]
      have hm : (if (bc.length : Int) - 1 < (i : Int) then (bc.length : Int) - 1 else (i : Int)) = ((min i (bc.length - 1) : Nat) : Int) := by split <;> omega
      have hj : min i (bc.length - 1) < bc.length := by omega
      dsimp only
      generalize min i (bc.length - 1) = j at *
      obtain ⟨y, hy⟩ : ∃ y, bc[j]? = some y := ⟨bc[j], by simp [hj]⟩
      have hly := hb.cls y (List.mem_of_getElem? hy)
      have q : ¬ (j : Int) < 0 := by omega
      rw [hy]
      dsimp only
      by_cases hz : y.cls.length = 0
      · have hz' : (y.cls.length : Int) = 0 := by omega
        have hn : y.cls = [] := List.eq_nil_of_length_eq_zero hz
        have hg : y.cls.getLast? = none := by rw [hn]; rfl
        simp (maxSteps := 1000000) (disch := omega) only [push_cast, ↓wc_seq, ↓wc_condL, ↓wc_region, ↓wr_cons, ↓wr_consgL, ↓wr_nil, ↓wo_pickL, ↓wo_callf, ↓wc_ret, ↓wc_skip, wo_some, opQ_eq, seqQ_normal, seqQ_ret, retQ_ret, pickC_true, pickC_false, pickO_false, gstep_ff, int_beq, Nat.reduceAdd, Nat.reduceMul, Nat.reduceLT, Nat.reduceLeDiff, Nat.reduceEqDiff, ↓reduceIte, planIds, hasExt, cntFs, idxFs, clnFs, ovlFs, List.contains_cons, List.contains_nil, List.any_cons, List.any_nil, Nat.reduceBEq, setC, List.length_set, eq_self, Int.natCast_nonneg, Int.toNat_natCast, Nat.zero_add, hal, h0, h1, h2, ca, cb, hm, q, hy, hg, hz', likeD, List.length_map, List.getElem?_map, Cab.enc, wrap_ok, Tryz.f115]
      · have hz' : ¬ (y.cls.length : Int) = 0 := by omega
        obtain ⟨z, hzl⟩ : ∃ z, y.cls[y.cls.length - 1]? = some z := ⟨y.cls[y.cls.length - 1], by simp⟩
        have hg : y.cls.getLast? = some z := by rw [List.getLast?_eq_getElem?, hzl]
        have q2 : ((y.cls.length : Int) - 1).toNat = y.cls.length - 1 := by omega
        have q3 : (0 : Int) ≤ (y.cls.length : Int) - 1 := by omega
        simp (maxSteps := 1000000) (disch := omega) only [push_cast, ↓wc_seq, ↓wc_condL, ↓wc_region, ↓wr_cons, ↓wr_consgL, ↓wr_nil, ↓wo_pickL, ↓wo_callf, ↓wc_ret, ↓wc_skip, wo_some, opQ_eq, seqQ_normal, retQ_ret, pickC_false, pickO_false, gstep_ff, int_beq, Nat.reduceAdd, Nat.reduceMul, Nat.reduceLT, Nat.reduceLeDiff, Nat.reduceEqDiff, ↓reduceIte, planIds, hasExt, cntFs, idxFs, clnFs, ovlFs, List.contains_cons, List.contains_nil, List.any_cons, List.any_nil, Nat.reduceBEq, setC, List.length_set, eq_self, Int.natCast_nonneg, Int.toNat_natCast, Nat.zero_add, Nat.add_zero, hal, h0, h1, h2, ca, cb, hm, q, q2, q3, hy, hg, hz', hzl, likeD, List.length_map, List.getElem?_map, Cab.enc, Cls.enc, wrap_ok, Tryz.f115]
    · rw [pb] at cb
      simp only [placeD] at ca cb
      simp (maxSteps := 1000000) (disch := omega) only [push_cast, ↓wc_seq, ↓wc_condL, ↓wc_region, ↓wr_cons, ↓wr_nil, ↓wo_callf, ↓wc_ret, ↓wc_skip, wo_some, opQ_eq, seqQ_normal, seqQ_ret, retQ_ret, pickC_true, pickC_false, Nat.reduceAdd, Nat.reduceMul, Nat.reduceLT, Nat.reduceLeDiff, Nat.reduceEqDiff, ↓reduceIte, planIds, hasExt, cntFs, idxFs, clnFs, ovlFs, List.contains_cons, List.contains_nil, List.any_cons, List.any_nil, Nat.reduceBEq, setC, List.length_set, eq_self, Nat.zero_add, hal, h0, h1, h2, ca, cb, likeD, Tryz.f115]
  obtain ⟨d, T, ho, rfl⟩ := this
  exact callD_pure rfl (by simp [pureL_cons, pureL_nil, D.pure, Cfg_pure]) ho (freeze_pure (likeD_pure _))
set_option maxHeartbeats 4000000 in
set_option maxRecDepth 100000 in
theorem rLike_c {n : Nat} {a b : Cfg} {cl : ByteArray} (hn : 130 ≤ n) (ha : Sm a) (hb : Sm b) (st : Bool) (S : List Ob) : callD E (dcall E n) st S 120 [.agg a.enc, .agg b.enc, .str cl] = some (likeD (likeF a.cabs b.cabs cl), S) := by
  obtain ⟨m, rfl⟩ : ∃ m, n = m + 1 := ⟨n - 1, by omega⟩
  have ca := rPlace_c (n := m) (cl := cl) (by omega) ha
  have cb := rPlace_c (n := m) (cl := cl) (by omega) hb
  have hlb := hb.cabs
  have : WO (dcall E (m + 1) 120 [.agg a.enc, .agg b.enc, .str cl] []) fun d T => d = likeD (likeF a.cabs b.cabs cl) := by
    obtain ⟨ae, ac, ax⟩ := a
    obtain ⟨be, bc, bx⟩ := b
    refine wo_dcall Tryz.func120 rfl (by decide) rfl 57 rfl (fun a hal ha => ?_)
    have h0 : a[0]? = some (.agg (Cfg.enc ⟨ae, ac, ax⟩)) := ha 0 (by simp)
    have h1 : a[1]? = some (.agg (Cfg.enc ⟨be, bc, bx⟩)) := ha 1 (by simp)
    have h2 : a[2]? = some (.str cl) := ha 2 (by simp)
    clear ha
    simp only [Cfg.enc] at h0 h1 ca cb hlb
    unfold likeF
    rcases pa : placeF cl 0 ac with _ | ⟨i, k⟩
    · rw [pa] at ca
      simp only [placeD] at ca
      simp (maxSteps := 1000000) (disch := omega) only [push_cast, ↓wc_seq, ↓wc_condL, ↓wc_region, ↓wr_cons, ↓wr_consgL, ↓wr_nil, ↓wo_pickL, ↓wo_callf, ↓wc_ret, wo_some, opQ_eq, seqQ_normal, seqQ_ret, retQ_ret, pickC_true, pickO_true, gstep_tf, Nat.reduceAdd, Nat.reduceMul, Nat.reduceLT, Nat.reduceLeDiff, Nat.reduceEqDiff, ↓reduceIte, planIds, hasExt, cntFs, idxFs, clnFs, ovlFs, List.contains_cons, List.contains_nil, List.any_cons, List.any_nil, Nat.reduceBEq, setC, List.length_set, eq_self, Nat.zero_add, hal, h0, h1, h2, ca, likeD, Tryz.f120]
    rw [pa] at ca
    by_cases hb0 : bc.length = 0
    · have : bc = [] := List.eq_nil_of_length_eq_zero hb0
      subst this
      simp only [placeD] at ca
      dsimp only [placeF, List.length_nil]
      simp (maxSteps := 1000000) (disch := omega) only [push_cast, ↓wc_seq, ↓wc_condL, ↓wc_region, ↓wr_cons, ↓wr_consgL, ↓wr_nil, ↓wo_pickL, ↓wo_callf, ↓wc_ret, wo_some, opQ_eq, seqQ_normal, seqQ_ret, retQ_ret, pickC_true, pickO_false, gstep_ff, int_beq, Nat.reduceAdd, Nat.reduceMul, Nat.reduceSub, Nat.reduceLT, Nat.reduceLeDiff, Nat.reduceEqDiff, ↓reduceIte, planIds, hasExt, cntFs, idxFs, clnFs, ovlFs, List.contains_cons, List.contains_nil, List.any_cons, List.any_nil, Nat.reduceBEq, setC, List.length_set, eq_self, Nat.zero_add, hal, h0, h1, h2, ca, likeD, List.getElem?_nil, Int.natCast_zero, Tryz.f120]
    have hb1 : ¬ (bc.length : Int) = 0 := by omega
    rcases pb : placeF cl 0 bc with _ | ⟨i', k'⟩
    · rw [pb] at cb
      simp only [placeD] at ca cb
      have hm : (if (bc.length : Int) - 1 < (i : Int) then (bc.length : Int) - 1 else (i : Int)) = ((min i (bc.length - 1) : Nat) : Int) := by split <;> omega
      have hj : min i (bc.length - 1) < bc.length := by omega
      dsimp only
      generalize min i (bc.length - 1) = j at *
      obtain ⟨y, hy⟩ : ∃ y, bc[j]? = some y := ⟨bc[j], by simp [hj]⟩
      have hly := hb.cls y (List.mem_of_getElem? hy)
      have q : ¬ (j : Int) < 0 := by omega
      rw [hy]
      dsimp only
      by_cases hz : y.cls.length = 0
      · have hz' : (y.cls.length : Int) = 0 := by omega
        have hn : y.cls = [] := List.eq_nil_of_length_eq_zero hz
        have hg : y.cls.getLast? = none := by rw [hn]; rfl
        simp (maxSteps := 1000000) (disch := omega) only [push_cast, ↓wc_seq, ↓wc_condL, ↓wc_region, ↓wr_cons, ↓wr_consgL, ↓wr_nil, ↓wo_pickL, ↓wo_callf, ↓wc_ret, ↓wc_skip, wo_some, opQ_eq, seqQ_normal, seqQ_ret, retQ_ret, pickC_true, pickC_false, pickO_false, gstep_ff, int_beq, Nat.reduceAdd, Nat.reduceMul, Nat.reduceLT, Nat.reduceLeDiff, Nat.reduceEqDiff, ↓reduceIte, planIds, hasExt, cntFs, idxFs, clnFs, ovlFs, List.contains_cons, List.contains_nil, List.any_cons, List.any_nil, Nat.reduceBEq, setC, List.length_set, eq_self, Int.natCast_nonneg, Int.toNat_natCast, Nat.zero_add, hal, h0, h1, h2, ca, cb, hb1, hm, hy, hg, hz', likeD, List.length_map, List.getElem?_map, Cab.enc, wrap_ok, Tryz.f120]
      · have hz' : ¬ (y.cls.length : Int) = 0 := by omega
        obtain ⟨z, hzl⟩ : ∃ z, y.cls[y.cls.length - 1]? = some z := ⟨y.cls[y.cls.length - 1], by simp⟩
        have hg : y.cls.getLast? = some z := by rw [List.getLast?_eq_getElem?, hzl]
        have q2 : ((y.cls.length : Int) - 1).toNat = y.cls.length - 1 := by omega
        have q3 : (0 : Int) ≤ (y.cls.length : Int) - 1 := by omega
        simp (maxSteps := 1000000) (disch := omega) only [push_cast, ↓wc_seq, ↓wc_condL, ↓wc_region, ↓wr_cons, ↓wr_consgL, ↓wr_nil, ↓wo_pickL, ↓wo_callf, ↓wc_ret, ↓wc_skip, wo_some, opQ_eq, seqQ_normal, retQ_ret, pickC_false, pickO_false, gstep_ff, int_beq, Nat.reduceAdd, Nat.reduceMul, Nat.reduceLT, Nat.reduceLeDiff, Nat.reduceEqDiff, ↓reduceIte, planIds, hasExt, cntFs, idxFs, clnFs, ovlFs, List.contains_cons, List.contains_nil, List.any_cons, List.any_nil, Nat.reduceBEq, setC, List.length_set, eq_self, Int.natCast_nonneg, Int.toNat_natCast, Nat.zero_add, Nat.add_zero, hal, h0, h1, h2, ca, cb, hb1, hm, q2, q3, hy, hg, hz', hzl, likeD, List.length_map, List.getElem?_map, Cab.enc, Cls.enc, wrap_ok, Tryz.f120]
    · rw [pb] at cb
      simp only [placeD] at ca cb
      simp (maxSteps := 1000000) (disch := omega) only [push_cast, ↓wc_seq, ↓wc_condL, ↓wc_region, ↓wr_cons, ↓wr_consgL, ↓wr_nil, ↓wo_pickL, ↓wo_callf, ↓wc_ret, ↓wc_skip, wo_some, opQ_eq, seqQ_normal, seqQ_ret, retQ_ret, pickC_true, pickC_false, pickO_false, gstep_ff, int_beq, Nat.reduceAdd, Nat.reduceMul, Nat.reduceLT, Nat.reduceLeDiff, Nat.reduceEqDiff, ↓reduceIte, planIds, hasExt, cntFs, idxFs, clnFs, ovlFs, List.contains_cons, List.contains_nil, List.any_cons, List.any_nil, Nat.reduceBEq, setC, List.length_set, eq_self, Nat.zero_add, hal, h0, h1, h2, ca, cb, hb1, likeD, List.length_map, Tryz.f120]
  obtain ⟨d, T, ho, rfl⟩ := this
  exact callD_pure rfl (by simp [pureL_cons, pureL_nil, D.pure, Cfg_pure]) ho (freeze_pure (likeD_pure _))
end Go.Proofs.YtajhgnefcddenaaGreatDoor.Dm
