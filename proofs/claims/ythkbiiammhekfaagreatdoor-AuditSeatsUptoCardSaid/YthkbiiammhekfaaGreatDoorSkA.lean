/-
  The machine at configurations: Find, Place, the program's and the reference's.
-/
import Derived.Test.YthkbiiammhekfaaGreatDoorSkT
set_option linter.unusedSimpArgs false
set_option linter.unusedVariables false
namespace Go.Proofs.YthkbiiammhekfaaGreatDoor.Dm
open Go Gw
set_option linter.unusedSimpArgs false
set_option linter.unusedSimpArgs false

/-- Configurations of a bounded size. -/
structure Sm (c : Cfg) : Prop where
  cabs : c.cabs.length ≤ 30
  cls : ∀ y ∈ c.cabs, y.cls.length ≤ 30
def zCfg : Cfg := ⟨ByteArray.mk #[], [], true⟩
def foundC : Option Cfg → D
  | some c => .tup [.agg c.enc, .bool true]
  | none => .tup [.agg [.str (ByteArray.mk #[]), .nils], .bool false]
theorem foundC_pure (o : Option Cfg) : (foundC o).pure = true := by
  cases o with
  | none => rfl
  | some c => simp only [foundC, D.pure, pureL_cons, pureL_nil, Cfg_pure, Bool.and_true]
theorem findF_drop {l : List Cfg} {e : ByteArray} {i : Nat} {c : Cfg} (h : l[i]? = some c) : findF (l.drop i) e = if c.equip = e then some c else findF (l.drop (i + 1)) e := by
  rw [drop_at h]
  unfold findF
  rw [List.find?_cons]
  by_cases q : c.equip = e
  · simp [q]
  · simp [q]
set_option maxHeartbeats 4000000 in
set_option maxRecDepth 100000 in
theorem Find_d {n : Nat} {l : List Cfg} {x : Bool} {e : ByteArray} (hn : 110 ≤ n) (hl : l.length ≤ 100) : WO (dcall E (n + 1) 59 [.sl 2 (l.map Cfg.enc) x, .str e] []) fun d _ => d = foundC (findF l e) := by
  refine wo_dcall Tryz.func59 rfl (by decide) rfl 21 rfl (fun a hal ha => ?_)
  have h0 : a[0]? = some (.sl 2 (l.map Cfg.enc) x) := ha 0 (by simp)
  have h1 : a[1]? = some (.str e) := ha 1 (by simp)
  clear ha
  simp (maxSteps := 1000000) (disch := omega) only [push_cast, ↓wc_seq, ↓wc_block, ↓wc_region, ↓wr_cons, ↓wr_nil, ↓wc_wl, wo_some, opQ_eq, seqQ_normal, Nat.reduceAdd, Nat.reduceMul, Nat.reduceLT, ↓reduceIte, planIds, List.contains_cons, List.contains_nil, Nat.reduceBEq, setC, List.length_set, reduceCtorEq, eq_self, Nat.zero_add, hal, h0]
  refine wl_loop (fun i a T => a.length = 21 ∧ a[1]? = some (.str e) ∧ a[4]? = some (.loc 0 0 0) ∧ a[8]? = some (.sl 2 (l.map Cfg.enc) x) ∧ a[9]? = some (.int .i64 l.length) ∧ a[10]? = some (.int .i64 i) ∧ T[0]? = some (.row 2 [[.str (ByteArray.mk #[]), .nils]]) ∧ findF l e = findF (l.drop i) e) l.length ?_ (by omega) ?_
  · simp (maxSteps := 1000000) (disch := omega) only [push_cast, Nat.reduceLT, Nat.reduceEqDiff, ↓reduceIte, setC, List.length_set, eq_self, hal, h1, Int.natCast_zero, List.length_map]
  clear hal h0 h1 a
  rintro i a T hi ⟨hal, h1, h4, h8, h9, h10, hr, hv⟩
  have hlT : 0 < T.length := (List.getElem?_eq_some_iff.1 hr).1
  rcases Nat.lt_or_eq_of_le hi with hlt | rfl
  · obtain ⟨c, hc⟩ : ∃ c, l[i]? = some c := ⟨l[i], by simp [hlt]⟩
    rw [findF_drop hc] at hv
    have hr2 : (T ++ [Ob.row 2 [c.enc]])[0]? = some (.row 2 [[.str (ByteArray.mk #[]), .nils]]) := get_old hr
    have hne : (T.length = 0) = False := eq_false (by omega)
    by_cases q : c.equip = e
    · rw [if_pos q] at hv
      subst q
      simp only [Cfg.enc] at hr2
      simp (maxSteps := 1000000) (disch := omega) only [push_cast, ↓wc_seq, ↓wc_block, ↓wc_condL, ↓wc_region, ↓wr_cons, ↓wr_nil, ↓wc_ret, ↓wc_skip, wo_some, opQ_eq, seqQ_normal, seqQ_ret, blockQ_ret, iterQ_ret, retQ_ret, pickC_true, Nat.reduceAdd, Nat.reduceMul, Nat.reduceLT, Nat.reduceLeDiff, Nat.reduceEqDiff, ↓reduceIte, planIds, List.contains_cons, List.contains_nil, Nat.reduceBEq, setC, List.length_set, eq_self, Int.natCast_nonneg, Int.toNat_natCast, Int.ofNat_lt, Nat.zero_add, Nat.add_zero, hal, h1, h4, h8, h9, h10, hlt, hc, List.getElem?_map, Cfg.enc, set_end, get_end, hr2, hv, foundC, str_eq, List.length_append, Nat.lt_add_right, Tryz.f59]
    · rw [if_neg q] at hv
      simp (maxSteps := 1000000) (disch := omega) only [push_cast, ↓wc_seq, ↓wc_block, ↓wc_condL, ↓wc_region, ↓wr_cons, ↓wr_nil, ↓wc_skip, wo_some, opQ_eq, seqQ_normal, blockQ_normal, iterQ_normal, pickC_true, pickC_false, Nat.reduceAdd, Nat.reduceMul, Nat.reduceLT, Nat.reduceLeDiff, Nat.reduceEqDiff, ↓reduceIte, planIds, List.contains_cons, List.contains_nil, Nat.reduceBEq, setC, List.length_set, eq_self, Int.natCast_nonneg, Int.toNat_natCast, Int.ofNat_lt, Nat.zero_add, Nat.add_zero, hal, h1, h4, h8, h9, h10, hlt, hc, List.getElem?_map, Cfg.enc, set_end, get_end, q, str_eq, wrap_ok, Int.natCast_add, Int.natCast_one]
      exact ⟨get_old hr, hv⟩
  · have hv : findF l e = none := by rw [hv, List.drop_length]; rfl
    simp (maxSteps := 1000000) (disch := omega) only [push_cast, ↓wc_seq, ↓wc_condL, ↓wc_region, ↓wr_cons, ↓wr_nil, ↓wc_exit, ↓wc_ret, wo_some, opQ_eq, seqQ_normal, seqQ_exit, blockQ_exit, iterQ_exit, retQ_ret, pickC_false, Nat.reduceAdd, Nat.reduceMul, Nat.reduceLT, Nat.reduceLeDiff, Nat.reduceEqDiff, ↓wo_build, evParts, ↓reduceIte, planIds, List.contains_cons, List.contains_nil, Nat.reduceBEq, setC, List.length_set, eq_self, Int.ofNat_lt, Nat.zero_add, hal, h4, h9, h10, Nat.lt_irrefl, hr, hlT, hv, foundC, Tryz.f59]
theorem Find_c {n : Nat} {l : List Cfg} {x : Bool} {e : ByteArray} (hn : 120 ≤ n) (hl : l.length ≤ 100) (st : Bool) (S : List Ob) : callD E (dcall E n) st S 59 [.sl 2 (l.map Cfg.enc) x, .str e] = some (foundC (findF l e), S) := by
  obtain ⟨m, rfl⟩ : ∃ m, n = m + 1 := ⟨n - 1, by omega⟩
  obtain ⟨d, T, ho, rfl⟩ := Find_d (n := m) (x := x) (e := e) (by omega) hl
  exact callD_pure rfl (by simp [pureL_cons, pureL_nil, D.pure, Cfgs_pure]) ho (freeze_pure (foundC_pure _))
def placeD : Option (Nat × Nat) → D
  | some (i, k) => .tup [.int .i64 i, .int .i64 k, .bool true]
  | none => .tup [.int .i64 0, .int .i64 0, .bool false]
/-! ### What may be sold in a cabin, and which class takes the place of a class -/
theorem Auth_c {n : Nat} (hn : 1 ≤ n) {y : Cab} (h1 : -1000000 ≤ y.seats) (h2 : y.seats ≤ 1000000) (h3 : -1000000 ≤ y.over) (h4 : y.over ≤ 1000000) (st : Bool) (S : List Ob) : callD E (dcall E n) st S 126 [.agg y.enc] = some (.int .i64 (autF y), S) := by
  obtain ⟨m, rfl⟩ : ∃ m, n = m + 1 := ⟨n - 1, by omega⟩
  have : WO (dcall E (m + 1) 126 [.agg y.enc] []) fun d T => d = .int .i64 (autF y) := by
    refine wo_dcall Tryz.func126 rfl (by decide) rfl 8 rfl (fun a hal ha => ?_)
    have h0 : a[0]? = some (.agg y.enc) := ha 0 (by simp)
    clear ha
    simp only [Cab.enc] at h0
    simp (maxSteps := 1000000) (disch := omega) only [push_cast, ↓wc_seq, ↓wc_region, ↓wr_cons, ↓wr_nil, ↓wc_ret, wo_some, opQ_eq, seqQ_normal, retQ_ret, Nat.reduceAdd, Nat.reduceMul, Nat.reduceLT, Nat.reduceEqDiff, ↓reduceIte, planIds, List.contains_cons, List.contains_nil, Nat.reduceBEq, setC, List.length_set, eq_self, Nat.zero_add, hal, h0, autF, wrap_ok, Tryz.f126]
  obtain ⟨d, T, ho, rfl⟩ := this
  exact callD_pure rfl (by simp [pureL_cons, pureL_nil, D.pure, Cab_pure]) ho rfl
theorem rAuth_c {n : Nat} (hn : 1 ≤ n) {y : Cab} (h1 : -1000000 ≤ y.seats) (h2 : y.seats ≤ 1000000) (h3 : -1000000 ≤ y.over) (h4 : y.over ≤ 1000000) (st : Bool) (S : List Ob) : callD E (dcall E n) st S 135 [.agg y.enc] = some (.int .i64 (autF y), S) := by
  obtain ⟨m, rfl⟩ : ∃ m, n = m + 1 := ⟨n - 1, by omega⟩
  have : WO (dcall E (m + 1) 135 [.agg y.enc] []) fun d T => d = .int .i64 (autF y) := by
    refine wo_dcall Tryz.func135 rfl (by decide) rfl 8 rfl (fun a hal ha => ?_)
    have h0 : a[0]? = some (.agg y.enc) := ha 0 (by simp)
    clear ha
    simp only [Cab.enc] at h0
    simp (maxSteps := 1000000) (disch := omega) only [push_cast, ↓wc_seq, ↓wc_region, ↓wr_cons, ↓wr_nil, ↓wc_ret, wo_some, opQ_eq, seqQ_normal, retQ_ret, Nat.reduceAdd, Nat.reduceMul, Nat.reduceLT, Nat.reduceEqDiff, ↓reduceIte, planIds, List.contains_cons, List.contains_nil, Nat.reduceBEq, setC, List.length_set, eq_self, Nat.zero_add, hal, h0, autF, wrap_ok, Tryz.f135]
  obtain ⟨d, T, ho, rfl⟩ := this
  exact callD_pure rfl (by simp [pureL_cons, pureL_nil, D.pure, Cab_pure]) ho rfl
def likeD : Option ByteArray → D
  | some s => .tup [.str s, .bool true]
  | none => .tup [.str (ByteArray.mk #[]), .bool false]
end Go.Proofs.YthkbiiammhekfaaGreatDoor.Dm
