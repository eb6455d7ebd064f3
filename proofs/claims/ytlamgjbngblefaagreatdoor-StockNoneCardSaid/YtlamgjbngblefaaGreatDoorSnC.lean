/-
  The machine at the program's check of configurations, whatever violations there are.
-/
import Derived.Test.YtlamgjbngblefaaGreatDoorSnA
import Derived.Test.YtlamgjbngblefaaGreatDoorSkC
import Derived.Test.YtlamgjbngblefaaGreatDoorSkQ
namespace Go.Proofs.YtlamgjbngblefaaGreatDoor.Dm
open Go Gw
set_option linter.unusedSimpArgs false
set_option linter.unusedSimpArgs false

/-- What is not the checker's, nor a list of violations, is as it was. -/
def KeepC (k : Nat) (S T : List Ob) : Prop := ∀ (j : Nat) (ob : Ob), j ≠ k → ¬ FaultOb ob → S[j]? = some ob → T[j]? = some ob
theorem KeepC.refl {k : Nat} {S : List Ob} : KeepC k S S := fun _ _ _ _ h => h
theorem KeepC.trans {k : Nat} {S T U : List Ob} (h : KeepC k S T) (g : KeepC k T U) : KeepC k S U := fun j ob e n hj => g j ob e n (h j ob e n hj)
theorem not_fault_map {t : TypeId} {ps : List (D × D)} : ¬ FaultOb (.map t ps) := by rintro ⟨fs, h⟩; cases h
theorem not_fault_ck {d : D} {s : ByteArray} (h : ∀ k v, d ≠ .int k v) : ¬ FaultOb (.row 2 [[d, .str s]]) := by
  rintro ⟨fs, e⟩
  injection e with _ e
  cases fs with
  | nil => cases e
  | cons f fs =>
    rw [List.map_cons] at e
    injection e with e _
    simp only [encF, List.cons.injEq] at e
    exact h _ _ e.1
theorem GL.nint {S : List Ob} {d : D} {fs : List (Int × ByteArray)} (h : GL 2 encF S d fs) : ∀ k v, d ≠ .int k v := by
  rintro k v rfl
  rcases h with ⟨h, -⟩ | ⟨k, h, -⟩ <;> cases h
/-- A list of violations where another object is written. -/
theorem GL.set {S : List Ob} {d : D} {fs : List (Int × ByteArray)} (h : GL 2 encF S d fs) {k : Nat} {o o' : Ob} (hk : S[k]? = some o) (ho : ¬ FaultOb o) : GL 2 encF (S.set k o') d fs := by
  rcases h with ⟨h1, h2⟩ | ⟨j, h1, h2⟩
  · exact .inl ⟨h1, h2⟩
  · refine .inr ⟨j, h1, ?_⟩
    have hne : k ≠ j := by
      rintro rfl
      rw [h2] at hk
      exact ho ⟨fs, (Option.some.inj hk).symm⟩
    rw [List.getElem?_set_ne hne]; exact h2
set_option maxHeartbeats 1000000 in
theorem add_c {n k : Nat} {e : Int} {S : List Ob} {d : D} {p : ByteArray} {fs : List (Int × ByteArray)} (hn : 1 ≤ n) (h : S[k]? = some (.row 2 [[d, .str p]])) (hg : GL 2 encF S d fs) (hl : fs.length ≤ 100000) (b : Bool) :
    ∃ d' T, (∀ st, callD E (dcall E n) st S 109 [.loc k 0 0, .bool b, .int .i64 e] = some (.tup [], T)) ∧ T[k]? = some (.row 2 [[d', .str p]]) ∧ GL 2 encF T d' (fs ++ ifF b e p) ∧ KeepC k S T := by
  cases b
  · exact ⟨d, S, fun st => add0_c hn st S, h, by rw [ifF, if_neg (by simp), List.append_nil]; exact hg, KeepC.refl⟩
  obtain ⟨m, rfl⟩ : ∃ m, n = m + 1 := ⟨n - 1, by omega⟩
  obtain ⟨d', U, ha, -, hg', hk'⟩ := app_if hg hl true e p
  have ha := ha rfl
  have hU : U[k]? = some (.row 2 [[d, .str p]]) := hk' k _ (not_fault_ck hg.nint) h
  have hUl := lt_of_get hU
  have : WO (dcall E (m + 1) 109 [.loc k 0 0, .bool true, .int .i64 e] S) fun r T => r = .tup [] ∧ T = U.set k (.row 2 [[d', .str p]]) := by
    have g0 := h
    clear h
    have hd : d' = .nils ∨ ∃ k' n', d' = .os k' 0 n' false := by
      rcases hg' with ⟨e, -⟩ | ⟨k', e, -⟩
      · exact .inl e
      · exact .inr ⟨_, _, e⟩
    refine wo_dcall Tryz.func109 rfl (by decide) rfl 22 rfl (fun a hal ha => ?_)
    have h0 : a[0]? = some (.loc k 0 0) := ha 0 (by simp)
    have h1 : a[1]? = some (.bool true) := ha 1 (by simp)
    have h2 : a[2]? = some (.int .i64 e) := ha 2 (by simp)
    clear ha
    rcases hd with rfl | ⟨k', n', rfl⟩ <;> simp (maxSteps := 1000000) (disch := omega) only [push_cast, ↓wc_seq, ↓wc_condL, ↓wc_region, ↓wr_cons, ↓wr_nil, wo_some, opQ_eq, seqQ_normal, retQ_normal, pickC_true, Nat.reduceAdd, Nat.reduceMul, Nat.reducePow, Nat.reduceLT, Nat.reduceLeDiff, Nat.reduceEqDiff, ↓wo_build, ↓wo_buildSlice, evParts, ↓reduceIte, planIds, List.contains_cons, List.contains_nil, Nat.reduceBEq, setC, List.length_set, reduceCtorEq, eq_self, Nat.zero_add, Nat.add_zero, planIds, List.contains_cons, List.contains_nil, Nat.reduceBEq, Nat.reduceMul, Nat.reduceAdd, ↓reduceIte, hal, h0, h1, h2, g0, ha, hU, Tryz.f109]
  obtain ⟨r, T, ho, rfl, rfl⟩ := this
  refine ⟨d', _, fun st => ?_, List.getElem?_set_self hUl, hg'.set hU (not_fault_ck hg.nint), fun j ob ej nj hj => ?_⟩
  · unfold callD
    rw [show E.mode 109 = .gen from rfl]
    exact ho
  · rw [List.getElem?_set_ne (Ne.symm ej)]; exact hk' j ob nj hj
theorem GL.push' {S : List Ob} {d : D} {fs : List (Int × ByteArray)} (h : GL 2 encF S d fs) (o : Ob) : GL 2 encF (S ++ [o]) d fs := h.push o
theorem cabR_nf (y : Cab) : ¬ FaultOb (cabR y) := not_fault4
/-- A store in which the checker has a path and a list of violations, and other objects are as they were. -/
structure CkAt (k : Nat) (S : List Ob) (p : ByteArray) (fs : List (Int × ByteArray)) : Prop where
  ex : ∃ d, S[k]? = some (.row 2 [[d, .str p]]) ∧ GL 2 encF S d fs
theorem CkAt.push {k : Nat} {S : List Ob} {p : ByteArray} {fs : List (Int × ByteArray)} (h : CkAt k S p fs) (o : Ob) : CkAt k (S ++ [o]) p fs := by
  obtain ⟨d, h1, h2⟩ := h.ex
  exact ⟨d, get_old h1, h2.push o⟩
theorem CkAt.lt {k : Nat} {S : List Ob} {p : ByteArray} {fs : List (Int × ByteArray)} (h : CkAt k S p fs) : k < S.length := by
  obtain ⟨d, h1, -⟩ := h.ex
  exact lt_of_get h1
theorem CkAt.nf {k : Nat} {S : List Ob} {p : ByteArray} {fs : List (Int × ByteArray)} (h : CkAt k S p fs) : ∃ o, S[k]? = some o ∧ ¬ FaultOb o := by
  obtain ⟨d, h1, h2⟩ := h.ex
  exact ⟨_, h1, not_fault_ck h2.nint⟩
/-- Another object is written. -/
theorem CkAt.set {k : Nat} {S : List Ob} {p : ByteArray} {fs : List (Int × ByteArray)} (h : CkAt k S p fs) {j : Nat} {o o' : Ob} (hj : S[j]? = some o) (ho : ¬ FaultOb o) (hn : j ≠ k) : CkAt k (S.set j o') p fs := by
  obtain ⟨d, h1, h2⟩ := h.ex
  exact ⟨d, by rw [List.getElem?_set_ne hn]; exact h1, h2.set hj ho⟩
/-- The checker's path is written. -/
theorem CkAt.path {k : Nat} {S : List Ob} {p q : ByteArray} {fs : List (Int × ByteArray)} (h : CkAt k S p fs) : ∃ d, S[k]? = some (.row 2 [[d, .str p]]) ∧ CkAt k (S.set k (.row 2 [[d, .str q]])) q fs := by
  obtain ⟨d, h1, h2⟩ := h.ex
  exact ⟨d, h1, d, List.getElem?_set_self (lt_of_get h1), h2.set h1 (not_fault_ck h2.nint)⟩
theorem CkAt.add {n k : Nat} {S : List Ob} {p : ByteArray} {fs : List (Int × ByteArray)} (h : CkAt k S p fs) (hn : 1 ≤ n) (hl : fs.length ≤ 100000) (b : Bool) (e : Int) :
    ∃ T, (∀ st, callD E (dcall E n) st S 109 [.loc k 0 0, .bool b, .int .i64 e] = some (.tup [], T)) ∧ CkAt k T p (fs ++ ifF b e p) ∧ KeepC k S T := by
  obtain ⟨d, h1, h2⟩ := h.ex
  obtain ⟨d', T, a, b, c, g⟩ := add_c (n := n) (e := e) hn h1 h2 hl b
  exact ⟨T, a, ⟨d', b, c⟩, g⟩
theorem rng_cases {y : Cab} : rngB y = (decide (¬ y.seats < 1) && decide (¬ (999 : Int) < y.seats) && decide (¬ y.over < 0) && decide (¬ (999 : Int) < y.over)) := by
  unfold rngB
  congr 1; congr 1; congr 1
  all_goals (refine decide_eq_decide.2 ?_; omega)
theorem clsL_succ {p : ByteArray} {seen : List ByteArray} {y : Cab} {j : Nat} {z : Cls} (hz : y.cls[j]? = some z) : clsL p seen y (j + 1) = clsL p seen y j ++ clsF p (seen ++ (y.cls.take j).map (·.code)) y j z := by
  rw [clsL, hz]
theorem snm_sz (p : ByteArray) (hp : p.size ≤ 100) (j : Nat) : ¬ IntKind.i64.max < (p.size : Int) + ((ByteArray.mk #[32, 99, 108, 97, 115, 115, 32]).size : Int) ∧ ¬ IntKind.i64.max < ((p ++ ByteArray.mk #[32, 99, 108, 97, 115, 115, 32]).size : Int) + ((dec2 j).size : Int) := by
  have hd := dec2_size j
  have hw7 : (ByteArray.mk #[32, 99, 108, 97, 115, 115, 32]).size = 7 := rfl
  constructor
  · show ¬ (9223372036854775807 : Int) < _
    rw [hw7]; omega
  · show ¬ (9223372036854775807 : Int) < _
    rw [ByteArray.size_append, hw7]; omega
set_option maxHeartbeats 16000000 in
set_option maxRecDepth 100000 in
theorem ckabG_c {n k0 m2 : Nat} {y : Cab} {p : ByteArray} {S : List Ob} {ps : List (D × D)} {seen : List ByteArray} {fs : List (Int × ByteArray)} (hn : 200 ≤ n) (hp : p.size ≤ 100) (g0 : CkAt k0 S p fs) (hfl : fs.length ≤ 90000) (hl30 : y.cls.length ≤ 30) (g2 : S[m2]? = some (.map kS ps)) (hs : SetIs ps seen) (hcz : ∀ z ∈ y.cls, z.code.size ≤ 9223372036854775807) :
    ∃ T ps' p', callD E (dcall E n) false S 111 [.loc k0 0 0, .agg y.enc, .map m2] = some (.tup [], T) ∧ CkAt k0 T p' (fs ++ ifF (!rngB y) 2 p ++ ifF (decide (y.cls.length < 1) || decide (26 < y.cls.length)) 4 p ++ clsL p seen y y.cls.length) ∧ T[m2]? = some (.map kS ps') ∧ SetIs ps' (seen ++ y.cls.map (·.code)) ∧ (∀ (j : Nat) (ob : Ob), j ≠ k0 → j ≠ m2 → ¬ FaultOb ob → S[j]? = some ob → T[j]? = some ob) := by
  obtain ⟨m, rfl⟩ : ∃ m, n = m + 1 := ⟨n - 1, by omega⟩
  obtain ⟨o0, ho0, hnf0⟩ := g0.nf
  have hne : k0 ≠ m2 := by
    rintro rfl
    obtain ⟨d, h1, -⟩ := g0.ex
    rw [h1] at g2; cases g2
  clear ho0 hnf0 o0
  have hk0S := g0.lt
  have hm2S := lt_of_get g2
  have : WO (dcall E (m + 1) 111 [.loc k0 0 0, .agg y.enc, .map m2] S) fun d T => d = .tup [] ∧ ∃ ps' p', CkAt k0 T p' (fs ++ ifF (!rngB y) 2 p ++ ifF (decide (y.cls.length < 1) || decide (26 < y.cls.length)) 4 p ++ clsL p seen y y.cls.length) ∧ T[m2]? = some (.map kS ps') ∧ SetIs ps' (seen ++ y.cls.map (·.code)) ∧ (∀ (j : Nat) (ob : Ob), j ≠ k0 → j ≠ m2 → ¬ FaultOb ob → S[j]? = some ob → T[j]? = some ob) := by
    refine wo_dcall Tryz.func111 rfl (by decide) rfl 111 rfl (fun a hal ha => ?_)
    have h0 : a[0]? = some (.loc k0 0 0) := ha 0 (by simp)
    have h1 : a[1]? = some (.agg y.enc) := ha 1 (by simp)
    have h2 : a[2]? = some (.map m2) := ha 2 (by simp)
    clear ha
    simp only [Cab.enc] at h1
    refine wc_scut (fun a T => T = S ++ [cabR y] ∧ a.length = 111 ∧ a[0]? = some (.loc k0 0 0) ∧ a[2]? = some (.map m2) ∧ a[4]? = some (.loc S.length 0 0)) ?_ ?_
    · simp (maxSteps := 1000000) (disch := omega) only [push_cast, ↓wc_region, ↓wr_cons, ↓wr_nil, wo_some, opQ_eq, Nat.reduceAdd, Nat.reduceMul, Nat.reduceLT, Nat.reduceEqDiff, ↓reduceIte, planIds, List.contains_cons, List.contains_nil, Nat.reduceBEq, setC, List.length_set, reduceCtorEq, eq_self, Nat.zero_add, planIds, List.contains_cons, List.contains_nil, Nat.reduceBEq, Nat.reduceMul, Nat.reduceAdd, ↓reduceIte, hal, h0, h1, h2]
    clear hal h0 h1 h2 a
    rintro a T ⟨rfl, hal, h0, h2, h4⟩
    obtain ⟨d0, q0, -⟩ := (g0.push (cabR y)).ex
    refine wc_scut (fun a T => T = S ++ [cabR y] ∧ a.length = 111 ∧ a[0]? = some (.loc k0 0 0) ∧ a[2]? = some (.map m2) ∧ a[4]? = some (.loc S.length 0 0) ∧ a[6]? = some (.str p)) ?_ ?_
    · simp (maxSteps := 1000000) (disch := omega) only [push_cast, ↓wc_region, ↓wr_cons, ↓wr_nil, wo_some, opQ_eq, Nat.reduceAdd, Nat.reduceMul, Nat.reduceLT, Nat.reduceEqDiff, ↓reduceIte, planIds, List.contains_cons, List.contains_nil, Nat.reduceBEq, setC, List.length_set, reduceCtorEq, eq_self, Nat.zero_add, planIds, List.contains_cons, List.contains_nil, Nat.reduceBEq, Nat.reduceMul, Nat.reduceAdd, ↓reduceIte, hal, h0, h2, h4, q0]
    clear hal h0 h2 h4 a
    rintro a T ⟨rfl, hal, h0, h2, h4, h6⟩
    refine wc_scut (fun a T => T = S ++ [cabR y] ∧ a.length = 111 ∧ a[0]? = some (.loc k0 0 0) ∧ a[2]? = some (.map m2) ∧ a[4]? = some (.loc S.length 0 0) ∧ a[6]? = some (.str p) ∧ a[7]? = some (.bool (!rngB y))) ?_ ?_
    · rw [rng_cases]
      by_cases q1 : y.seats < 1
      · simp (maxSteps := 1000000) (disch := omega) only [push_cast, ↓wc_region, ↓wr_cons, ↓wr_consgL, ↓wr_nil, ↓wo_pickL, wo_some, opQ_eq, pickO_true, gstep_tf, decide_not, Nat.reduceAdd, Nat.reduceMul, Nat.reduceLT, Nat.reduceEqDiff, ↓reduceIte, planIds, List.contains_cons, List.contains_nil, Nat.reduceBEq, setC, List.length_set, reduceCtorEq, eq_self, Nat.zero_add, not_true_eq_false, planIds, List.contains_cons, List.contains_nil, Nat.reduceBEq, Nat.reduceMul, Nat.reduceAdd, ↓reduceIte, hal, h0, h2, h4, h6, get_end, q1, decide_true, decide_false, Bool.not_false, Bool.false_and, not_true_eq_false]
      by_cases q2 : (999 : Int) < y.seats
      · simp (maxSteps := 1000000) (disch := omega) only [push_cast, ↓wc_region, ↓wr_cons, ↓wr_consgL, ↓wr_nil, ↓wo_pickL, wo_some, opQ_eq, pickO_true, pickO_false, gstep_ff, gstep_tf, decide_not, Nat.reduceAdd, Nat.reduceMul, Nat.reduceLT, Nat.reduceEqDiff, ↓reduceIte, planIds, List.contains_cons, List.contains_nil, Nat.reduceBEq, setC, List.length_set, reduceCtorEq, eq_self, Nat.zero_add, gt_iff_lt, not_true_eq_false, not_false_eq_true, planIds, List.contains_cons, List.contains_nil, Nat.reduceBEq, Nat.reduceMul, Nat.reduceAdd, ↓reduceIte, hal, h0, h2, h4, h6, get_end, q1, q2, decide_true, decide_false, Bool.not_false, Bool.false_and, Bool.and_false, not_true_eq_false, not_false_eq_true]
      by_cases q3 : y.over < 0
      · simp (maxSteps := 1000000) (disch := omega) only [push_cast, ↓wc_region, ↓wr_cons, ↓wr_consgL, ↓wr_nil, ↓wo_pickL, wo_some, opQ_eq, pickO_true, pickO_false, gstep_ff, gstep_tf, decide_not, Nat.reduceAdd, Nat.reduceMul, Nat.reduceLT, Nat.reduceEqDiff, ↓reduceIte, planIds, List.contains_cons, List.contains_nil, Nat.reduceBEq, setC, List.length_set, reduceCtorEq, eq_self, Nat.zero_add, gt_iff_lt, not_true_eq_false, not_false_eq_true, planIds, List.contains_cons, List.contains_nil, Nat.reduceBEq, Nat.reduceMul, Nat.reduceAdd, ↓reduceIte, hal, h0, h2, h4, h6, get_end, q1, q2, q3, decide_true, decide_false, Bool.not_false, Bool.true_and, Bool.false_and, Bool.and_false, not_true_eq_false, not_false_eq_true]
      by_cases q4 : (999 : Int) < y.over
      · simp (maxSteps := 1000000) (disch := omega) only [push_cast, ↓wc_region, ↓wr_cons, ↓wr_consgL, ↓wr_nil, ↓wo_pickL, wo_some, opQ_eq, pickO_false, gstep_ff, Nat.reduceAdd, Nat.reduceMul, Nat.reduceLT, Nat.reduceEqDiff, ↓reduceIte, planIds, List.contains_cons, List.contains_nil, Nat.reduceBEq, setC, List.length_set, reduceCtorEq, eq_self, Nat.zero_add, gt_iff_lt, not_true_eq_false, not_false_eq_true, planIds, List.contains_cons, List.contains_nil, Nat.reduceBEq, Nat.reduceMul, Nat.reduceAdd, ↓reduceIte, hal, h0, h2, h4, h6, get_end, q1, q2, q3, q4, decide_true, decide_false, Bool.not_false, Bool.true_and, Bool.false_and, Bool.and_false, not_true_eq_false, not_false_eq_true]
      · simp (maxSteps := 1000000) (disch := omega) only [push_cast, ↓wc_region, ↓wr_cons, ↓wr_consgL, ↓wr_nil, ↓wo_pickL, wo_some, opQ_eq, pickO_false, gstep_ff, Nat.reduceAdd, Nat.reduceMul, Nat.reduceLT, Nat.reduceEqDiff, ↓reduceIte, planIds, List.contains_cons, List.contains_nil, Nat.reduceBEq, setC, List.length_set, reduceCtorEq, eq_self, Nat.zero_add, gt_iff_lt, not_false_eq_true, planIds, List.contains_cons, List.contains_nil, Nat.reduceBEq, Nat.reduceMul, Nat.reduceAdd, ↓reduceIte, hal, h0, h2, h4, h6, get_end, q1, q2, q3, q4, decide_true, decide_false, Bool.not_true, Bool.false_and, Bool.and_false, Bool.and_true, not_false_eq_true]
    clear hal h0 h2 h4 h6 a
    rintro a T ⟨rfl, hal, h0, h2, h4, h6, h7⟩
    obtain ⟨T1, a1, g1, k1⟩ := (g0.push (cabR y)).add (n := m) (by omega) (by omega) (!rngB y) 2
    have hb1 : T1[S.length]? = some (cabR y) := k1 _ _ (by omega) (cabR_nf y) get_end
    have hm1 : T1[m2]? = some (.map kS ps) := k1 _ _ (Ne.symm hne) not_fault_map (get_old g2)
    refine wc_scut (fun a T => T1 = T ∧ a.length = 111 ∧ a[0]? = some (.loc k0 0 0) ∧ a[2]? = some (.map m2) ∧ a[4]? = some (.loc S.length 0 0) ∧ a[6]? = some (.str p) ∧ a[7]? = some (.bool (!rngB y))) ?_ ?_
    · simp (maxSteps := 1000000) (disch := omega) only [push_cast, ↓wc_region, ↓wr_cons, ↓wr_nil, ↓wo_callf, wo_some, opQ_eq, Nat.reduceAdd, Nat.reduceMul, Nat.reduceLT, Nat.reduceEqDiff, ↓reduceIte, planIds, hasExt, cntFs, idxFs, clnFs, ovlFs, List.contains_cons, List.contains_nil, List.any_nil, Nat.reduceBEq, setC, List.length_set, reduceCtorEq, eq_self, Nat.zero_add, planIds, hasExt, cntFs, idxFs, clnFs, ovlFs, List.contains_cons, List.contains_nil, List.any_nil, Nat.reduceBEq, Nat.reduceMul, Nat.reduceAdd, ↓reduceIte, hal, h0, h2, h4, h6, h7, a1]
    clear hal h0 h2 h4 h6 h7 a
    rintro a T ⟨rfl, hal, h0, h2, h4, h6, h7⟩
    have hf1 : (fs ++ ifF (!rngB y) 2 p).length ≤ 90001 := by
      have := ifF_len (!rngB y) 2 p
      rw [List.length_append]; omega
    obtain ⟨b4, hb4⟩ : ∃ b, b = (decide (y.cls.length < 1) || decide (26 < y.cls.length)) := ⟨_, rfl⟩
    rw [← hb4]
    obtain ⟨T2, a2, g3, k2⟩ := g1.add (n := m) (by omega) (by omega) b4 4
    have hb2 : T2[S.length]? = some (cabR y) := k2 _ _ (by omega) (cabR_nf y) hb1
    have hm2 : T2[m2]? = some (.map kS ps) := k2 _ _ (Ne.symm hne) not_fault_map hm1
    refine wc_scut (fun a T => T2 = T ∧ a.length = 111 ∧ a[0]? = some (.loc k0 0 0) ∧ a[2]? = some (.map m2) ∧ a[4]? = some (.loc S.length 0 0) ∧ a[6]? = some (.str p) ∧ a[7]? = some (.bool (!rngB y))) ?_ ?_
    · by_cases q1 : (y.cls.length : Int) < 1
      · have : y.cls.length < 1 := by omega
        rw [decide_eq_true this, Bool.true_or] at hb4
        rw [hb4] at a2
        simp (maxSteps := 1000000) (disch := omega) only [push_cast, ↓wc_region, ↓wr_cons, ↓wr_consgL, ↓wr_nil, ↓wo_pickL, ↓wo_callf, wo_some, opQ_eq, pickO_true, gstep_tf, Nat.reduceAdd, Nat.reduceMul, Nat.reduceLT, Nat.reduceEqDiff, ↓reduceIte, planIds, hasExt, cntFs, idxFs, clnFs, ovlFs, List.contains_cons, List.contains_nil, List.any_nil, Nat.reduceBEq, setC, List.length_set, reduceCtorEq, eq_self, Nat.zero_add, planIds, hasExt, cntFs, idxFs, clnFs, ovlFs, List.contains_cons, List.contains_nil, List.any_nil, Nat.reduceBEq, Nat.reduceMul, Nat.reduceAdd, ↓reduceIte, hal, h0, h2, h4, h6, h7, a2, hb1, q1, List.length_map]
      have q1' : ¬ y.cls.length < 1 := by omega
      by_cases q2 : (26 : Int) < y.cls.length
      · have : 26 < y.cls.length := by omega
        rw [decide_eq_true this, Bool.or_true] at hb4
        rw [hb4] at a2
        simp (maxSteps := 1000000) (disch := omega) only [push_cast, ↓wc_region, ↓wr_cons, ↓wr_consgL, ↓wr_nil, ↓wo_pickL, ↓wo_callf, wo_some, opQ_eq, pickO_false, gstep_ff, Nat.reduceAdd, Nat.reduceMul, Nat.reduceLT, Nat.reduceEqDiff, ↓reduceIte, planIds, hasExt, cntFs, idxFs, clnFs, ovlFs, List.contains_cons, List.contains_nil, List.any_nil, Nat.reduceBEq, setC, List.length_set, reduceCtorEq, eq_self, Nat.zero_add, gt_iff_lt, planIds, hasExt, cntFs, idxFs, clnFs, ovlFs, List.contains_cons, List.contains_nil, List.any_nil, Nat.reduceBEq, Nat.reduceMul, Nat.reduceAdd, ↓reduceIte, hal, h0, h2, h4, h6, h7, a2, hb1, q1, q2, List.length_map, gt_iff_lt]
      · have : ¬ 26 < y.cls.length := by omega
        rw [decide_eq_false this, decide_eq_false q1', Bool.or_false] at hb4
        rw [hb4] at a2
        simp (maxSteps := 1000000) (disch := omega) only [push_cast, ↓wc_region, ↓wr_cons, ↓wr_consgL, ↓wr_nil, ↓wo_pickL, ↓wo_callf, wo_some, opQ_eq, pickO_false, gstep_ff, Nat.reduceAdd, Nat.reduceMul, Nat.reduceLT, Nat.reduceEqDiff, ↓reduceIte, planIds, hasExt, cntFs, idxFs, clnFs, ovlFs, List.contains_cons, List.contains_nil, List.any_nil, Nat.reduceBEq, setC, List.length_set, reduceCtorEq, eq_self, Nat.zero_add, gt_iff_lt, planIds, hasExt, cntFs, idxFs, clnFs, ovlFs, List.contains_cons, List.contains_nil, List.any_nil, Nat.reduceBEq, Nat.reduceMul, Nat.reduceAdd, ↓reduceIte, hal, h0, h2, h4, h6, h7, a2, hb1, q1, q2, List.length_map, gt_iff_lt]
    clear hal h0 h2 h4 h6 h7 a
    rintro a T ⟨rfl, hal, h0, h2, h4, h6, h7⟩
    have hf2 : (fs ++ ifF (!rngB y) 2 p ++ ifF b4 4 p).length ≤ 90002 := by
      have := ifF_len b4 4 p
      rw [List.length_append]; omega
    generalize fs ++ ifF (!rngB y) 2 p ++ ifF b4 4 p = f2 at *
    have kp0 : ∀ (j : Nat) (ob : Ob), j ≠ k0 → j ≠ m2 → ¬ FaultOb ob → S[j]? = some ob → T2[j]? = some ob := fun j ob e1 _ hnf hj => k2 _ _ e1 hnf (k1 _ _ e1 hnf (get_old hj))
    clear k1 k2 hb1 hm1 a1 a2 q0 g1
    simp (maxSteps := 1000000) (disch := omega) only [push_cast, ↓wc_seq, ↓wc_block, ↓wc_region, ↓wr_cons, ↓wr_nil, ↓wc_wl, wo_some, opQ_eq, seqQ_normal, Nat.reduceAdd, Nat.reduceMul, Nat.reduceLT, ↓reduceIte, planIds, List.contains_cons, List.contains_nil, Nat.reduceBEq, setC, List.length_set, eq_self, Nat.zero_add, ne_eq, planIds, List.contains_cons, List.contains_nil, Nat.reduceBEq, Nat.reduceMul, Nat.reduceAdd, ↓reduceIte, hal, h4, hb2]
    refine wl_loop (fun j a T => a.length = 111 ∧ a[0]? = some (.loc k0 0 0) ∧ a[2]? = some (.map m2) ∧ a[4]? = some (.loc S.length 0 0) ∧ a[6]? = some (.str p) ∧ a[7]? = some (.bool (!rngB y)) ∧ a[48]? = some (.sl 2 (y.cls.map Cls.enc) y.clsx) ∧ a[49]? = some (.int .i64 y.cls.length) ∧ a[50]? = some (.int .i64 j) ∧ (∃ ps' p', CkAt k0 T p' (f2 ++ clsL p seen y j) ∧ T[m2]? = some (.map kS ps') ∧ SetIs ps' (seen ++ (y.cls.take j).map (·.code))) ∧ T[S.length]? = some (cabR y) ∧ (∀ (j : Nat) (ob : Ob), j ≠ k0 → j ≠ m2 → ¬ FaultOb ob → S[j]? = some ob → T[j]? = some ob)) y.cls.length ?_ (by omega) ?_
    · simp (maxSteps := 1000000) (disch := omega) only [push_cast, Nat.reduceLT, Nat.reduceEqDiff, ↓reduceIte, setC, List.length_set, reduceCtorEq, eq_self, ne_eq, ↓reduceIte, hal, h0, h2, h4, h6, h7, Int.natCast_zero, List.length_map, List.take_zero, List.map_nil, List.append_nil, clsL]
      exact ⟨⟨ps, p, g3, hm2, hs⟩, hb2, kp0⟩
    clear hal h0 h2 h4 h6 h7 a
    clear kp0 hb2 hm2 g3
    rintro j a T hj ⟨hal, h0, h2, h4, h6, h7, h48, h49, h50, ⟨ps', p', t0, t2, hs'⟩, tb, hkp⟩
    rcases Nat.lt_or_eq_of_le hj with hlt | rfl
    case inr =>
      rw [List.take_length] at hs'
      simp (maxSteps := 1000000) (disch := omega) only [push_cast, ↓wc_seq, ↓wc_condL, ↓wc_region, ↓wr_cons, ↓wr_nil, ↓wc_exit, wo_some, opQ_eq, seqQ_normal, seqQ_exit, blockQ_exit, iterQ_exit, retQ_normal, pickC_false, Nat.reduceAdd, Nat.reduceMul, Nat.reduceLT, ↓reduceIte, planIds, List.contains_cons, List.contains_nil, Nat.reduceBEq, setC, eq_self, Int.ofNat_lt, Nat.zero_add, ne_eq, planIds, List.contains_cons, List.contains_nil, Nat.reduceBEq, Nat.reduceMul, Nat.reduceAdd, ↓reduceIte, hal, h49, h50, Nat.lt_irrefl, Tryz.f111]
      exact ⟨ps', p', t0, t2, hs', hkp⟩
    obtain ⟨z, hz⟩ : ∃ z, y.cls[j]? = some z := ⟨y.cls[j], by simp⟩
    have hzz := hcz z (List.mem_of_getElem? hz)
    have ko := keyOk_str hzz
    have ks := keys_str
    have cc := class_c (n := m) (by omega) z.code
    have cd := dec2_c (n := m) (by omega) (i := j) (by omega)
    obtain ⟨m1, m2'⟩ := snm_sz p hp j
    have hclL := clsL_len p seen y j
    have hlk := hs'.2 z.code
    have hput := hs'.put z.code
    have hst : seen ++ (y.cls.take j).map (·.code) ++ [z.code] = seen ++ (y.cls.take (j + 1)).map (·.code) := by
      rw [List.take_add_one, hz, List.map_append, List.append_assoc]; rfl
    rw [hst] at hput
    have k0T := t0.lt
    have m2T := lt_of_get t2
    have bT := lt_of_get tb
    have n1 : S.length ≠ k0 := by omega
    have n2 : S.length ≠ m2 := by omega
    have n3 : m2 ≠ k0 := fun e => hne e.symm
    have n4 : T.length ≠ k0 := by omega
    have n5 : T.length ≠ m2 := by omega
    have hat : p ++ ByteArray.mk #[32, 99, 108, 97, 115, 115, 32] ++ dec2 j = clsS p j := rfl
    obtain ⟨dd, t0x, gU⟩ := (t0.push (Ob.row 2 [[.str z.code, .int .i64 z.prot]])).path (q := clsS p j)
    have hkU : ∀ (j' : Nat) (ob : Ob), j' ≠ k0 → T[j']? = some ob → ((T ++ [Ob.row 2 [[.str z.code, .int .i64 z.prot]]]).set k0 (.row 2 [[dd, .str (clsS p j)]]))[j']? = some ob := fun j' ob e1 hj => by
      rw [List.getElem?_set_ne (Ne.symm e1)]; exact get_old hj
    have hUz : ((T ++ [Ob.row 2 [[.str z.code, .int .i64 z.prot]]]).set k0 (.row 2 [[dd, .str (clsS p j)]]))[T.length]? = some (.row 2 [[.str z.code, .int .i64 z.prot]]) := by
      rw [List.getElem?_set_ne (Ne.symm n4)]; exact get_end
    obtain ⟨U, hU⟩ : ∃ U, U = (T ++ [Ob.row 2 [[.str z.code, .int .i64 z.prot]]]).set k0 (.row 2 [[dd, .str (clsS p j)]]) := ⟨_, rfl⟩
    rw [← hU] at gU hkU hUz
    have hUb := hkU _ _ n1 tb
    have hU2 := hkU _ _ n3 t2
    obtain ⟨T1, a1, gT1, k1⟩ := gU.add (n := m) (by omega) (by rw [List.length_append]; omega) (!clsB z.code) 16
    have hT1z := k1 _ _ n4 not_fault2 hUz
    have hT1b := k1 _ _ n1 (cabR_nf y) hUb
    have hT12 := k1 _ _ n3 not_fault_map hU2
    obtain ⟨T2, a2, gT2, k2⟩ := gT1.add (n := m) (by omega) (by have := ifF_len (!clsB z.code) 16 (clsS p j); rw [List.length_append, List.length_append]; omega) (inB z.code (seen ++ (y.cls.take j).map (·.code))) 6
    have hT2z := k2 _ _ n4 not_fault2 hT1z
    have hT2b := k2 _ _ n1 (cabR_nf y) hT1b
    have hT22 := k2 _ _ n3 not_fault_map hT12
    have gV := gT2.set (o' := .map kS (putM ps' (.str z.code) (.bool true))) hT22 not_fault_map n3
    have hVz : (T2.set m2 (.map kS (putM ps' (.str z.code) (.bool true))))[T.length]? = some (.row 2 [[.str z.code, .int .i64 z.prot]]) := by rw [List.getElem?_set_ne (Ne.symm n5)]; exact hT2z
    have hVb : (T2.set m2 (.map kS (putM ps' (.str z.code) (.bool true))))[S.length]? = some (cabR y) := by rw [List.getElem?_set_ne (Ne.symm n2)]; exact hT2b
    have hV2 : (T2.set m2 (.map kS (putM ps' (.str z.code) (.bool true))))[m2]? = some (.map kS (putM ps' (.str z.code) (.bool true))) := List.getElem?_set_self (lt_of_get hT22)
    have hVk : ∀ (j : Nat) (ob : Ob), j ≠ k0 → j ≠ m2 → ¬ FaultOb ob → S[j]? = some ob → (T2.set m2 (.map kS (putM ps' (.str z.code) (.bool true))))[j]? = some ob := fun j ob e1 e2 hnf hj => by
      rw [List.getElem?_set_ne (Ne.symm e2)]; exact k2 _ _ e1 hnf (k1 _ _ e1 hnf (hkU _ _ e1 (hkp j ob e1 e2 hnf hj)))
    obtain ⟨V, hV⟩ : ∃ V, V = T2.set m2 (.map kS (putM ps' (.str z.code) (.bool true))) := ⟨_, rfl⟩
    rw [← hV] at gV hVz hVb hV2 hVk
    obtain ⟨T3, a3, gT3, k3⟩ := gV.add (n := m) (by omega) (by have := ifF_len (!clsB z.code) 16 (clsS p j); have := ifF_len (inB z.code (seen ++ (y.cls.take j).map (·.code))) 6 (clsS p j); rw [List.length_append, List.length_append, List.length_append]; omega) (protB y j z) 2
    have hend : f2 ++ clsL p seen y j ++ ifF (!clsB z.code) 16 (clsS p j) ++ ifF (inB z.code (seen ++ (y.cls.take j).map (·.code))) 6 (clsS p j) ++ ifF (protB y j z) 2 (clsS p j) = f2 ++ clsL p seen y (j + 1) := by
      rw [clsL_succ hz, clsF]
      simp only [List.append_assoc]
    rw [hend] at gT3
    have hT3b := k3 _ _ n1 (cabR_nf y) hVb
    have hT32 := k3 _ _ n3 not_fault_map hV2
    have hT3k : ∀ (j : Nat) (ob : Ob), j ≠ k0 → j ≠ m2 → ¬ FaultOb ob → S[j]? = some ob → T3[j]? = some ob := fun j ob e1 e2 hnf hj => k3 _ _ e1 hnf (hVk j ob e1 e2 hnf hj)
    refine wc_scut (fun a T' => T = T' ∧ a.length = 111 ∧ a[0]? = some (.loc k0 0 0) ∧ a[2]? = some (.map m2) ∧ a[4]? = some (.loc S.length 0 0) ∧ a[6]? = some (.str p) ∧ a[7]? = some (.bool (!rngB y)) ∧ a[48]? = some (.sl 2 (y.cls.map Cls.enc) y.clsx) ∧ a[49]? = some (.int .i64 y.cls.length) ∧ a[50]? = some (.int .i64 j) ∧ a[51]? = some (.bool true)) ?_ ?_
    · simp (maxSteps := 1000000) (disch := omega) only [push_cast, ↓wc_region, ↓wr_cons, ↓wr_nil, wo_some, opQ_eq, Nat.reduceAdd, Nat.reduceMul, Nat.reduceLT, Nat.reduceEqDiff, ↓reduceIte, planIds, List.contains_cons, List.contains_nil, Nat.reduceBEq, setC, List.length_set, reduceCtorEq, eq_self, Int.ofNat_lt, Nat.zero_add, planIds, List.contains_cons, List.contains_nil, Nat.reduceBEq, Nat.reduceMul, Nat.reduceAdd, ↓reduceIte, hal, h0, h2, h4, h6, h7, h48, h49, h50, hlt]
    clear hal h0 h2 h4 h6 h7 h48 h49 h50 a
    rintro a T' ⟨rfl, hal, h0, h2, h4, h6, h7, h48, h49, h50, h51⟩
    refine wc_scut (fun a T' => T = T' ∧ a.length = 111 ∧ a[0]? = some (.loc k0 0 0) ∧ a[2]? = some (.map m2) ∧ a[4]? = some (.loc S.length 0 0) ∧ a[6]? = some (.str p) ∧ a[7]? = some (.bool (!rngB y)) ∧ a[48]? = some (.sl 2 (y.cls.map Cls.enc) y.clsx) ∧ a[49]? = some (.int .i64 y.cls.length) ∧ a[50]? = some (.int .i64 j)) ?_ ?_
    · simp (maxSteps := 1000000) (disch := omega) only [push_cast, ↓wc_condL, ↓wc_skip, pickC_true, eq_self, hal, h0, h2, h4, h6, h7, h48, h49, h50, h51]
    clear hal h0 h2 h4 h6 h7 h48 h49 h50 h51 a
    rintro a T' ⟨rfl, hal, h0, h2, h4, h6, h7, h48, h49, h50⟩
    refine wc_scut (fun a T' => T3 = T' ∧ a.length = 111 ∧ a[0]? = some (.loc k0 0 0) ∧ a[2]? = some (.map m2) ∧ a[4]? = some (.loc S.length 0 0) ∧ a[6]? = some (.str p) ∧ a[7]? = some (.bool (!rngB y)) ∧ a[48]? = some (.sl 2 (y.cls.map Cls.enc) y.clsx) ∧ a[49]? = some (.int .i64 y.cls.length) ∧ a[50]? = some (.int .i64 j)) ?_ ?_
    case refine_2 =>
      clear hal h0 h2 h4 h6 h7 h48 h49 h50 a
      rintro a T' ⟨rfl, hal, h0, h2, h4, h6, h7, h48, h49, h50⟩
      simp (maxSteps := 1000000) (disch := omega) only [push_cast, ↓wc_region, ↓wr_cons, ↓wr_nil, wo_some, opQ_eq, iterQ_normal, Nat.reduceAdd, Nat.reduceMul, Nat.reduceLT, Nat.reduceEqDiff, ↓reduceIte, planIds, List.contains_cons, List.contains_nil, Nat.reduceBEq, setC, List.length_set, reduceCtorEq, eq_self, Nat.zero_add, ne_eq, planIds, List.contains_cons, List.contains_nil, Nat.reduceBEq, Nat.reduceMul, Nat.reduceAdd, ↓reduceIte, hal, h0, h2, h4, h6, h7, h48, h49, h50, wrap_ok, Int.natCast_add, Int.natCast_one]
      exact ⟨hlt, ⟨_, _, gT3, hT32, hput⟩, hT3b, hT3k⟩
    rw [wc_block]
    refine wc_scut (fun a T' => T ++ [Ob.row 2 [[.str z.code, .int .i64 z.prot]]] = T' ∧ a.length = 111 ∧ a[0]? = some (.loc k0 0 0) ∧ a[2]? = some (.map m2) ∧ a[4]? = some (.loc S.length 0 0) ∧ a[6]? = some (.str p) ∧ a[7]? = some (.bool (!rngB y)) ∧ a[8]? = some (.int .i64 j) ∧ a[9]? = some (.loc T.length 0 0) ∧ a[48]? = some (.sl 2 (y.cls.map Cls.enc) y.clsx) ∧ a[49]? = some (.int .i64 y.cls.length) ∧ a[50]? = some (.int .i64 j)) ?_ ?_
    · simp (maxSteps := 1000000) (disch := omega) only [push_cast, ↓wc_region, ↓wr_cons, ↓wr_nil, wo_some, opQ_eq, Nat.reduceAdd, Nat.reduceMul, Nat.reduceLT, Nat.reduceLeDiff, Nat.reduceEqDiff, ↓reduceIte, planIds, List.contains_cons, List.contains_nil, Nat.reduceBEq, setC, List.length_set, reduceCtorEq, eq_self, Int.natCast_nonneg, Int.toNat_natCast, Nat.zero_add, planIds, List.contains_cons, List.contains_nil, Nat.reduceBEq, Nat.reduceMul, Nat.reduceAdd, ↓reduceIte, hal, h0, h2, h4, h6, h7, h48, h49, h50, hz, Cls.enc, set_end, get_end, List.getElem?_map]
    clear hal h0 h2 h4 h6 h7 h48 h49 h50 a
    rintro a T' ⟨rfl, hal, h0, h2, h4, h6, h7, h8, h9, h48, h49, h50⟩
    refine wc_scut (fun a T' => U = T' ∧ a.length = 111 ∧ a[0]? = some (.loc k0 0 0) ∧ a[2]? = some (.map m2) ∧ a[4]? = some (.loc S.length 0 0) ∧ a[6]? = some (.str p) ∧ a[7]? = some (.bool (!rngB y)) ∧ a[8]? = some (.int .i64 j) ∧ a[9]? = some (.loc T.length 0 0) ∧ a[48]? = some (.sl 2 (y.cls.map Cls.enc) y.clsx) ∧ a[49]? = some (.int .i64 y.cls.length) ∧ a[50]? = some (.int .i64 j)) ?_ ?_
    · simp (maxSteps := 1000000) (disch := omega) only [push_cast, ↓wc_region, ↓wr_cons, ↓wr_nil, ↓wo_callf, wo_some, opQ_eq, Nat.reduceAdd, Nat.reduceMul, Nat.reduceLT, Nat.reduceLeDiff, Nat.reduceEqDiff, ↓reduceIte, planIds, hasExt, cntFs, idxFs, clnFs, ovlFs, List.contains_cons, List.contains_nil, List.any_nil, Nat.reduceBEq, setC, List.length_set, reduceCtorEq, eq_self, Nat.zero_add, gt_iff_lt, planIds, hasExt, cntFs, idxFs, clnFs, ovlFs, List.contains_cons, List.contains_nil, List.any_nil, Nat.reduceBEq, Nat.reduceMul, Nat.reduceAdd, ↓reduceIte, hal, h0, h2, h4, h6, h7, h8, h9, h48, h49, h50, cd, m1, m2', hat, t0x, ← hU]
    clear hal h0 h2 h4 h6 h7 h8 h9 h48 h49 h50 a
    rintro a T' ⟨rfl, hal, h0, h2, h4, h6, h7, h8, h9, h48, h49, h50⟩
    refine wc_scut (fun a T' => T1 = T' ∧ a.length = 111 ∧ a[0]? = some (.loc k0 0 0) ∧ a[2]? = some (.map m2) ∧ a[4]? = some (.loc S.length 0 0) ∧ a[6]? = some (.str p) ∧ a[7]? = some (.bool (!rngB y)) ∧ a[8]? = some (.int .i64 j) ∧ a[9]? = some (.loc T.length 0 0) ∧ a[48]? = some (.sl 2 (y.cls.map Cls.enc) y.clsx) ∧ a[49]? = some (.int .i64 y.cls.length) ∧ a[50]? = some (.int .i64 j)) ?_ ?_
    · simp (maxSteps := 1000000) (disch := omega) only [push_cast, ↓wc_region, ↓wr_cons, ↓wr_nil, ↓wo_callf, wo_some, opQ_eq, Nat.reduceAdd, Nat.reduceMul, Nat.reduceLT, Nat.reduceEqDiff, ↓reduceIte, planIds, hasExt, cntFs, idxFs, clnFs, ovlFs, List.contains_cons, List.contains_nil, List.any_nil, Nat.reduceBEq, setC, List.length_set, reduceCtorEq, eq_self, Nat.zero_add, Nat.add_zero, planIds, hasExt, cntFs, idxFs, clnFs, ovlFs, List.contains_cons, List.contains_nil, List.any_nil, Nat.reduceBEq, Nat.reduceMul, Nat.reduceAdd, ↓reduceIte, hal, h0, h2, h4, h6, h7, h8, h9, h48, h49, h50, hUz, cc, a1]
    clear hal h0 h2 h4 h6 h7 h8 h9 h48 h49 h50 a
    rintro a T' ⟨rfl, hal, h0, h2, h4, h6, h7, h8, h9, h48, h49, h50⟩
    refine wc_scut (fun a T' => T2 = T' ∧ a.length = 111 ∧ a[0]? = some (.loc k0 0 0) ∧ a[2]? = some (.map m2) ∧ a[4]? = some (.loc S.length 0 0) ∧ a[6]? = some (.str p) ∧ a[7]? = some (.bool (!rngB y)) ∧ a[8]? = some (.int .i64 j) ∧ a[9]? = some (.loc T.length 0 0) ∧ a[48]? = some (.sl 2 (y.cls.map Cls.enc) y.clsx) ∧ a[49]? = some (.int .i64 y.cls.length) ∧ a[50]? = some (.int .i64 j)) ?_ ?_
    · cases hin : inB z.code (seen ++ (y.cls.take j).map (·.code))
      · rw [hin, if_neg (by simp)] at hlk
        rw [hin] at a2
        simp (maxSteps := 1000000) (disch := omega) only [push_cast, ↓wc_region, ↓wr_cons, ↓wr_nil, ↓wo_callf, wo_some, opQ_eq, Nat.reduceAdd, Nat.reduceMul, Nat.reduceLT, Nat.reduceEqDiff, ↓reduceIte, planIds, hasExt, cntFs, idxFs, clnFs, ovlFs, List.contains_cons, List.contains_nil, List.any_nil, Nat.reduceBEq, setC, List.length_set, reduceCtorEq, eq_self, Nat.zero_add, Nat.add_zero, planIds, hasExt, cntFs, idxFs, clnFs, ovlFs, List.contains_cons, List.contains_nil, List.any_nil, Nat.reduceBEq, Nat.reduceMul, Nat.reduceAdd, ↓reduceIte, hal, h0, h2, h4, h6, h7, h8, h9, h48, h49, h50, hT1z, hT12, ko, ks, hlk, a2]
      · rw [hin, if_pos rfl] at hlk
        rw [hin] at a2
        simp (maxSteps := 1000000) (disch := omega) only [push_cast, ↓wc_region, ↓wr_cons, ↓wr_nil, ↓wo_callf, wo_some, opQ_eq, Nat.reduceAdd, Nat.reduceMul, Nat.reduceLT, Nat.reduceEqDiff, ↓reduceIte, planIds, hasExt, cntFs, idxFs, clnFs, ovlFs, List.contains_cons, List.contains_nil, List.any_nil, Nat.reduceBEq, setC, List.length_set, reduceCtorEq, eq_self, Nat.zero_add, Nat.add_zero, planIds, hasExt, cntFs, idxFs, clnFs, ovlFs, List.contains_cons, List.contains_nil, List.any_nil, Nat.reduceBEq, Nat.reduceMul, Nat.reduceAdd, ↓reduceIte, hal, h0, h2, h4, h6, h7, h8, h9, h48, h49, h50, hT1z, hT12, ko, ks, hlk, a2]
    clear hal h0 h2 h4 h6 h7 h8 h9 h48 h49 h50 a
    rintro a T' ⟨rfl, hal, h0, h2, h4, h6, h7, h8, h9, h48, h49, h50⟩
    refine wc_scut (fun a T' => V = T' ∧ a.length = 111 ∧ a[0]? = some (.loc k0 0 0) ∧ a[2]? = some (.map m2) ∧ a[4]? = some (.loc S.length 0 0) ∧ a[6]? = some (.str p) ∧ a[7]? = some (.bool (!rngB y)) ∧ a[8]? = some (.int .i64 j) ∧ a[9]? = some (.loc T.length 0 0) ∧ a[48]? = some (.sl 2 (y.cls.map Cls.enc) y.clsx) ∧ a[49]? = some (.int .i64 y.cls.length) ∧ a[50]? = some (.int .i64 j)) ?_ ?_
    · simp (maxSteps := 1000000) (disch := omega) only [push_cast, ↓wc_region, ↓wr_cons, ↓wr_nil, wo_some, opQ_eq, Nat.reduceAdd, Nat.reduceMul, Nat.reduceLT, Nat.reduceEqDiff, ↓reduceIte, planIds, List.contains_cons, List.contains_nil, Nat.reduceBEq, setC, List.length_set, reduceCtorEq, eq_self, Nat.zero_add, Nat.add_zero, planIds, List.contains_cons, List.contains_nil, Nat.reduceBEq, Nat.reduceMul, Nat.reduceAdd, ↓reduceIte, hal, h0, h2, h4, h6, h7, h8, h9, h48, h49, h50, hT2z, hT22, ko, ks, ← hV]
    clear hal h0 h2 h4 h6 h7 h8 h9 h48 h49 h50 a
    rintro a T' ⟨rfl, hal, h0, h2, h4, h6, h7, h8, h9, h48, h49, h50⟩
    by_cases c1 : z.prot < 0
    · have hb : protB y j z = true := by simp [protB, c1]
      rw [hb] at a3
      simp (maxSteps := 1000000) (disch := omega) only [push_cast, ↓wc_region, ↓wr_cons, ↓wr_consgL, ↓wr_nil, ↓wo_pickL, ↓wo_callf, wo_some, opQ_eq, blockQ_normal, pickO_true, gstep_tf, gstep_skip, Nat.reduceAdd, Nat.reduceMul, Nat.reduceLT, Nat.reduceEqDiff, ↓reduceIte, planIds, hasExt, cntFs, idxFs, clnFs, ovlFs, List.contains_cons, List.contains_nil, List.any_nil, Nat.reduceBEq, setC, List.length_set, reduceCtorEq, eq_self, Nat.zero_add, planIds, hasExt, cntFs, idxFs, clnFs, ovlFs, List.contains_cons, List.contains_nil, List.any_nil, Nat.reduceBEq, Nat.reduceMul, Nat.reduceAdd, ↓reduceIte, hal, h0, h2, h4, h6, h7, h9, h48, h49, h50, hVz, c1, a3]
    by_cases hj0 : j = 0
    · have e1 : ¬ (0 : Int) < j := by omega
      cases hr : rngB y
      · have hb : protB y j z = false := by simp [protB, c1, hj0, hr]
        rw [hb] at a3
        rw [hr] at h7
        simp only [Bool.not_false] at h7
        simp (maxSteps := 1000000) (disch := omega) only [push_cast, ↓wc_region, ↓wr_cons, ↓wr_consgL, ↓wr_nil, ↓wo_pickL, ↓wo_callf, wo_some, opQ_eq, blockQ_normal, pickO_false, gstep_ff, gstep_ft, Nat.reduceAdd, Nat.reduceMul, Nat.reduceLT, Nat.reduceEqDiff, ↓reduceIte, planIds, hasExt, cntFs, idxFs, clnFs, ovlFs, List.contains_cons, List.contains_nil, List.any_nil, Nat.reduceBEq, setC, List.length_set, reduceCtorEq, eq_self, Nat.zero_add, gt_iff_lt, planIds, hasExt, cntFs, idxFs, clnFs, ovlFs, List.contains_cons, List.contains_nil, List.any_nil, Nat.reduceBEq, Nat.reduceMul, Nat.reduceAdd, ↓reduceIte, hal, h0, h2, h4, h6, h7, h8, h9, h48, h49, h50, hVz, c1, e1, a3, gt_iff_lt]
      have hr' := hr
      simp only [rngB, Bool.and_eq_true, decide_eq_true_eq] at hr'
      have ca := Auth_c (n := m) (by omega) (y := y) (by omega) (by omega) (by omega) (by omega)
      simp only [Cab.enc] at ca
      rw [hr] at h7
      simp only [Bool.not_true] at h7
      by_cases c5 : autF y < z.prot
      · have hb : protB y j z = true := by simp [protB, hr, c5]
        rw [hb] at a3
        simp (maxSteps := 1000000) (disch := omega) only [push_cast, ↓wc_region, ↓wr_cons, ↓wr_consgL, ↓wr_nil, ↓wo_pickL, ↓wo_callf, wo_some, opQ_eq, blockQ_normal, pickO_true, pickO_false, gstep_tt, gstep_ff, gstep_ft, Nat.reduceAdd, Nat.reduceMul, Nat.reduceLT, Nat.reduceLeDiff, Nat.reduceEqDiff, ↓reduceIte, planIds, hasExt, cntFs, idxFs, clnFs, ovlFs, List.contains_cons, List.contains_nil, List.any_nil, Nat.reduceBEq, setC, List.length_set, reduceCtorEq, eq_self, Nat.zero_add, gt_iff_lt, planIds, hasExt, cntFs, idxFs, clnFs, ovlFs, List.contains_cons, List.contains_nil, List.any_nil, Nat.reduceBEq, Nat.reduceMul, Nat.reduceAdd, ↓reduceIte, hal, h0, h2, h4, h6, h7, h8, h9, h48, h49, h50, hVz, hVb, c1, e1, ca, c5, a3, gt_iff_lt]
      · have hb : protB y j z = false := by simp [protB, c1, hj0, c5]
        rw [hb] at a3
        simp (maxSteps := 1000000) (disch := omega) only [push_cast, ↓wc_region, ↓wr_cons, ↓wr_consgL, ↓wr_nil, ↓wo_pickL, ↓wo_callf, wo_some, opQ_eq, blockQ_normal, pickO_true, pickO_false, gstep_tt, gstep_ff, gstep_ft, Nat.reduceAdd, Nat.reduceMul, Nat.reduceLT, Nat.reduceLeDiff, Nat.reduceEqDiff, ↓reduceIte, planIds, hasExt, cntFs, idxFs, clnFs, ovlFs, List.contains_cons, List.contains_nil, List.any_nil, Nat.reduceBEq, setC, List.length_set, reduceCtorEq, eq_self, Nat.zero_add, gt_iff_lt, planIds, hasExt, cntFs, idxFs, clnFs, ovlFs, List.contains_cons, List.contains_nil, List.any_nil, Nat.reduceBEq, Nat.reduceMul, Nat.reduceAdd, ↓reduceIte, hal, h0, h2, h4, h6, h7, h8, h9, h48, h49, h50, hVz, hVb, c1, e1, ca, c5, a3, gt_iff_lt]
    have e1 : (0 : Int) < j := by omega
    have e2 : ((j : Int) - 1).toNat = j - 1 := by omega
    have e3 : (0 : Int) ≤ (j : Int) - 1 := by omega
    obtain ⟨z', hz'⟩ : ∃ z', y.cls[j - 1]? = some z' := ⟨y.cls[j - 1]'(by omega), by simp⟩
    by_cases c3 : z.prot < z'.prot
    · have hb : protB y j z = true := by simp [protB, hz', c3, Nat.pos_of_ne_zero hj0]
      rw [hb] at a3
      simp (maxSteps := 1000000) (disch := omega) only [push_cast, ↓wc_region, ↓wr_cons, ↓wr_consgL, ↓wr_nil, ↓wo_pickL, ↓wo_callf, wo_some, opQ_eq, blockQ_normal, pickO_true, pickO_false, gstep_tt, gstep_ff, gstep_tf, gstep_skip, Nat.reduceAdd, Nat.reduceMul, Nat.reduceLT, Nat.reduceEqDiff, ↓reduceIte, planIds, hasExt, cntFs, idxFs, clnFs, ovlFs, List.contains_cons, List.contains_nil, List.any_nil, Nat.reduceBEq, setC, List.length_set, reduceCtorEq, eq_self, Nat.zero_add, gt_iff_lt, planIds, hasExt, cntFs, idxFs, clnFs, ovlFs, List.contains_cons, List.contains_nil, List.any_nil, Nat.reduceBEq, Nat.reduceMul, Nat.reduceAdd, ↓reduceIte, hal, h0, h2, h4, h6, h7, h8, h9, h48, h49, h50, hVz, hVb, hz', c1, e1, e2, e3, c3, a3, gt_iff_lt, wrap_ok, List.getElem?_map, Cls.enc]
    cases hr : rngB y
    · have hb : protB y j z = false := by simp [protB, c1, hz', c3, hr]
      rw [hb] at a3
      rw [hr] at h7
      simp only [Bool.not_false] at h7
      simp (maxSteps := 1000000) (disch := omega) only [push_cast, ↓wc_region, ↓wr_cons, ↓wr_consgL, ↓wr_nil, ↓wo_pickL, ↓wo_callf, wo_some, opQ_eq, blockQ_normal, pickO_true, pickO_false, gstep_tt, gstep_ff, gstep_ft, Nat.reduceAdd, Nat.reduceMul, Nat.reduceLT, Nat.reduceEqDiff, ↓reduceIte, planIds, hasExt, cntFs, idxFs, clnFs, ovlFs, List.contains_cons, List.contains_nil, List.any_nil, Nat.reduceBEq, setC, List.length_set, reduceCtorEq, eq_self, Nat.zero_add, gt_iff_lt, planIds, hasExt, cntFs, idxFs, clnFs, ovlFs, List.contains_cons, List.contains_nil, List.any_nil, Nat.reduceBEq, Nat.reduceMul, Nat.reduceAdd, ↓reduceIte, hal, h0, h2, h4, h6, h7, h8, h9, h48, h49, h50, hVz, hVb, hz', c1, e1, e2, e3, c3, a3, gt_iff_lt, wrap_ok, List.getElem?_map, Cls.enc]
    have hr' := hr
    simp only [rngB, Bool.and_eq_true, decide_eq_true_eq] at hr'
    have ca := Auth_c (n := m) (by omega) (y := y) (by omega) (by omega) (by omega) (by omega)
    simp only [Cab.enc] at ca
    rw [hr] at h7
    simp only [Bool.not_true] at h7
    by_cases c5 : autF y < z.prot
    · have hb : protB y j z = true := by simp [protB, hr, c5]
      rw [hb] at a3
      simp (maxSteps := 1000000) (disch := omega) only [push_cast, ↓wc_region, ↓wr_cons, ↓wr_consgL, ↓wr_nil, ↓wo_pickL, ↓wo_callf, wo_some, opQ_eq, blockQ_normal, pickO_true, pickO_false, gstep_tt, gstep_ff, Nat.reduceAdd, Nat.reduceMul, Nat.reduceLT, Nat.reduceLeDiff, Nat.reduceEqDiff, ↓reduceIte, planIds, hasExt, cntFs, idxFs, clnFs, ovlFs, List.contains_cons, List.contains_nil, List.any_nil, Nat.reduceBEq, setC, List.length_set, reduceCtorEq, eq_self, Nat.zero_add, gt_iff_lt, planIds, hasExt, cntFs, idxFs, clnFs, ovlFs, List.contains_cons, List.contains_nil, List.any_nil, Nat.reduceBEq, Nat.reduceMul, Nat.reduceAdd, ↓reduceIte, hal, h0, h2, h4, h6, h7, h8, h9, h48, h49, h50, hVz, hVb, hz', c1, e1, e2, e3, c3, ca, c5, a3, gt_iff_lt, wrap_ok, List.getElem?_map, Cls.enc]
    · have hb : protB y j z = false := by simp [protB, c1, hz', c3, c5]
      rw [hb] at a3
      simp (maxSteps := 1000000) (disch := omega) only [push_cast, ↓wc_region, ↓wr_cons, ↓wr_consgL, ↓wr_nil, ↓wo_pickL, ↓wo_callf, wo_some, opQ_eq, blockQ_normal, pickO_true, pickO_false, gstep_tt, gstep_ff, Nat.reduceAdd, Nat.reduceMul, Nat.reduceLT, Nat.reduceLeDiff, Nat.reduceEqDiff, ↓reduceIte, planIds, hasExt, cntFs, idxFs, clnFs, ovlFs, List.contains_cons, List.contains_nil, List.any_nil, Nat.reduceBEq, setC, List.length_set, reduceCtorEq, eq_self, Nat.zero_add, gt_iff_lt, planIds, hasExt, cntFs, idxFs, clnFs, ovlFs, List.contains_cons, List.contains_nil, List.any_nil, Nat.reduceBEq, Nat.reduceMul, Nat.reduceAdd, ↓reduceIte, hal, h0, h2, h4, h6, h7, h8, h9, h48, h49, h50, hVz, hVb, hz', c1, e1, e2, e3, c3, ca, c5, a3, gt_iff_lt, wrap_ok, List.getElem?_map, Cls.enc]
  obtain ⟨d, T, ho, rfl, ps', p', e1, e2, e3, e4⟩ := this
  exact ⟨T, ps', p', (callD_own rfl (by simp [pureL_cons, D.pure])).trans ho, e1, e2, e3, e4⟩
end Go.Proofs.YtlamgjbngblefaaGreatDoor.Dm
