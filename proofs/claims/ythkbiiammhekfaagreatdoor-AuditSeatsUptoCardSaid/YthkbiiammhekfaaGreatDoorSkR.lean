/-
  The machine at the reference's classes of a cabin.
-/
import Derived.Test.YthkbiiammhekfaaGreatDoorSkN
set_option linter.unusedSimpArgs false
set_option linter.unusedVariables false
namespace Go.Proofs.YthkbiiammhekfaaGreatDoor.Dm
open Go Gw
set_option linter.unusedSimpArgs false
set_option linter.unusedSimpArgs false

theorem el_int : elemT Tryz.prog 119 = some 3 := by kernel_rfl
theorem sz_int : sizeT Tryz.prog 3 = some 1 := by kernel_rfl
theorem ze_int : zeroT Tryz.prog 3 = some (.int .i64 0) := by kernel_rfl
theorem by_int : bytesT Tryz.prog 3 ≤ 100000 := by
  have : bytesT Tryz.prog 3 = 8 := by kernel_rfl
  rw [this]; omega
/-- An append of a number. -/
theorem app_z {S : List Ob} {d : D} {l : List Int} (h : GL 1 encZ S d l) (hl : l.length ≤ 100000) (v : Int) :
    ∃ S', dAppend Tryz.prog S 119 119 d (.sl 1 [[.int .i64 v]] true) = some (.os S.length 0 (l.length + 1) false, S') ∧ GL 1 encZ S' (.os S.length 0 (l.length + 1) false) (l ++ [v]) ∧ S'.length = S.length + 1 ∧ (∀ k o, (∀ n, d = .os k 0 n false → False) → S[k]? = some o → S'[k]? = some o) ∧ (∀ (k sz : Nat) (es : List (List D)), sz ≠ 1 → S[k]? = some (.row sz es) → S'[k]? = some (.row sz es)) :=
  app_gl el_int sz_int ze_int rfl by_int h hl v
/-- The first values of a function. -/
def upTo (f : Nat → Int) (i : Nat) : List Int := (List.range i).map f
theorem upTo_succ (f : Nat → Int) (i : Nat) : upTo f i ++ [f i] = upTo f (i + 1) := by simp [upTo, List.range_succ]
theorem upTo_len (f : Nat → Int) (i : Nat) : (upTo f i).length = i := by simp [upTo]
theorem upTo_row (f : Nat → Int) (i : Nat) : (upTo f i).map encZ = rowH i f := by simp [upTo, rowH, List.map_map]
set_option maxHeartbeats 4000000 in
set_option maxRecDepth 100000 in
theorem rLimits_d {n : Nat} {y : Cab} (hn : 110 ≤ n) (hy : CabOk y) : WO (dcall E (n + 1) 131 [.agg y.enc] []) fun r T => GL 1 encZ T r (upTo (limF y) y.cls.length) := by
  obtain ⟨s1, s2, o1, o2, l1, l2, hp, hm⟩ := hy
  have ca := rAuth_c (n := n) (by omega) (y := y) (by omega) (by omega) (by omega) (by omega)
  have hau : 0 ≤ autF y ∧ autF y ≤ 1998 := by unfold autF; omega
  refine wo_dcall Tryz.func131 rfl (by decide) rfl 31 rfl (fun a hal ha => ?_)
  have h0 : a[0]? = some (.agg y.enc) := ha 0 (by simp)
  clear ha
  simp only [Cab.enc] at h0 ca
  simp (maxSteps := 1000000) (disch := omega) only [push_cast, ↓wc_seq, ↓wc_block, ↓wc_region, ↓wr_cons, ↓wr_nil, ↓wc_wl, wo_some, opQ_eq, seqQ_normal, Nat.reduceAdd, Nat.reduceMul, ↓reduceIte, planIds, List.contains_cons, List.contains_nil, Nat.reduceBEq, eq_self, Nat.zero_add, h0]
  refine wl_loop (fun i a T => a.length = 31 ∧ a[1]? = some (.loc 0 0 0) ∧ a[4]? = some (.int .i64 i) ∧ T[0]? = some (cabR y) ∧ ∃ d, a[3]? = some d ∧ GL 1 encZ T d (upTo (limF y) i)) y.cls.length ?_ (by omega) ?_
  · simp (maxSteps := 1000000) (disch := omega) only [push_cast, Nat.reduceLT, Nat.reduceEqDiff, ↓reduceIte, setC, List.length_set, eq_self, Option.some.injEq, hal, Int.natCast_zero]
    exact ⟨_, rfl, GL.nil⟩
  clear hal h0 a
  rintro i a T hi ⟨hal, h1, h4, hT0, d, h3, hg⟩
  rcases Nat.lt_or_eq_of_le hi with hlt | rfl
  case inr =>
    simp (maxSteps := 1000000) (disch := omega) only [push_cast, ↓wc_seq, ↓wc_condL, ↓wc_region, ↓wr_cons, ↓wr_nil, ↓wc_exit, ↓wc_ret, wo_some, opQ_eq, seqQ_normal, seqQ_exit, blockQ_exit, iterQ_exit, retQ_ret, pickC_false, Nat.reduceAdd, Nat.reduceMul, Nat.reduceLT, Nat.reduceEqDiff, ↓reduceIte, planIds, List.contains_cons, List.contains_nil, Nat.reduceBEq, setC, List.length_set, eq_self, Int.ofNat_lt, Nat.zero_add, hal, h1, h3, h4, Nat.lt_irrefl, hT0, List.length_map, Tryz.f131]
    exact hg
  obtain ⟨T', ha, hg', hlen, -, hrow⟩ := app_z hg (by rw [upTo_len]; omega) (limF y i)
  rw [upTo_succ, upTo_len] at hg'
  rw [upTo_len] at ha
  have hT0' := hrow 0 4 _ (by decide) hT0
  by_cases hi0 : i = 0
  · have hi1 : ¬ (0 : Int) < i := by omega
    have hl : limF y i = autF y := by rw [hi0]; rfl
    rw [hl] at ha
    simp (maxSteps := 1000000) (disch := omega) only [push_cast, ↓wc_seq, ↓wc_block, ↓wc_condL, ↓wc_region, ↓wr_cons, ↓wr_nil, ↓wo_callf, ↓wc_skip, wo_some, opQ_eq, seqQ_normal, blockQ_normal, iterQ_normal, pickC_true, pickC_false, Nat.reduceAdd, Nat.reduceMul, Nat.reducePow, Nat.reduceLT, Nat.reduceLeDiff, Nat.reduceEqDiff, ↓wo_buildSlice, evParts, ↓reduceIte, planIds, hasExt, cntFs, idxFs, clnFs, ovlFs, List.contains_cons, List.contains_nil, List.any_cons, List.any_nil, Nat.reduceBEq, setC, List.length_set, eq_self, Int.ofNat_lt, Option.some.injEq, Nat.zero_add, gt_iff_lt, hal, h1, h3, h4, hlt, hT0, ca, hi1, ha, List.length_map, wrap_ok, Int.natCast_add, Int.natCast_one]
    exact ⟨hT0', _, rfl, hg'⟩
  · have hi1 : (0 : Int) < i := by omega
    have hi2 : ((i : Int) - 1).toNat = i - 1 := by omega
    have hi3 : (0 : Int) ≤ (i : Int) - 1 := by omega
    obtain ⟨z, hz⟩ : ∃ z, y.cls[i - 1]? = some z := ⟨y.cls[i - 1], by simp⟩
    have hzp := hp (i - 1) z hz
    have hl : limF y i = autF y - z.prot := by
      obtain ⟨q, rfl⟩ : ∃ q, i = q + 1 := ⟨i - 1, by omega⟩
      simp only [Nat.add_sub_cancel] at hz
      simp [limF, hz]
    rw [hl] at ha
    simp (maxSteps := 1000000) (disch := omega) only [push_cast, ↓wc_seq, ↓wc_block, ↓wc_condL, ↓wc_region, ↓wr_cons, ↓wr_nil, ↓wo_callf, ↓wc_skip, wo_some, opQ_eq, seqQ_normal, blockQ_normal, iterQ_normal, pickC_true, Nat.reduceAdd, Nat.reduceMul, Nat.reducePow, Nat.reduceLT, Nat.reduceLeDiff, Nat.reduceEqDiff, ↓wo_buildSlice, evParts, ↓reduceIte, planIds, hasExt, cntFs, idxFs, clnFs, ovlFs, List.contains_cons, List.contains_nil, List.any_cons, List.any_nil, Nat.reduceBEq, setC, List.length_set, eq_self, Int.ofNat_lt, Option.some.injEq, Nat.zero_add, gt_iff_lt, hal, h1, h3, h4, hlt, hT0, ca, hi1, hi2, hi3, hz, ha, List.length_map, List.getElem?_map, Cls.enc, wrap_ok, Int.natCast_add, Int.natCast_one]
    exact ⟨hT0', _, rfl, hg'⟩
theorem rLimits_c {n : Nat} {y : Cab} (hn : 120 ≤ n) (hy : CabOk y) : ∃ x, ∀ st S, callD E (dcall E n) st S 131 [.agg y.enc] = some (.sl 1 (rowH y.cls.length (limF y)) x, S) := by
  obtain ⟨m, rfl⟩ : ∃ m, n = m + 1 := ⟨n - 1, by omega⟩
  have l1 := hy.l1
  obtain ⟨d, T, ho, hg⟩ := rLimits_d (n := m) (by omega) hy
  obtain ⟨d', hf, hd⟩ := hg.fls (zs_pure _)
  rcases hd with ⟨-, h⟩ | ⟨x, rfl⟩
  · have := congrArg List.length h
    rw [upTo_len, List.length_nil] at this
    omega
  · rw [upTo_row] at hf
    exact ⟨x, fun st S => callD_pure rfl (by simp [pureL_cons, pureL_nil, D.pure, Cab_pure]) ho hf⟩
set_option maxHeartbeats 4000000 in
set_option maxRecDepth 100000 in
theorem rRight_c {n k : Nat} {y : Cab} {l : List Int} {S : List Ob} (hl : l.length ≤ 100) (hn : 120 ≤ n) (hr : rngI l) (he : l.length = y.cls.length) (hk : S[k]? = some (.row 1 (l.map encZ))) (st : Bool) :
    callD E (dcall E n) st S 91 [.agg y.enc, .os k 0 l.length false] = some (.bool true, S) := by
  obtain ⟨m, rfl⟩ : ∃ m, n = m + 1 := ⟨n - 1, by omega⟩
  have : WO (dcall E (m + 1) 91 [.agg y.enc, .os k 0 l.length false] S) fun r T => r = .bool true ∧ ExtS S T := by
    refine wo_dcall Tryz.func91 rfl (by decide) rfl 30 rfl (fun a hal ha => ?_)
    have h0 : a[0]? = some (.agg y.enc) := ha 0 (by simp)
    have h1 : a[1]? = some (.os k 0 l.length false) := ha 1 (by simp)
    clear ha
    simp only [Cab.enc] at h0
    have hkx : (S ++ [cabR y])[k]? = some (.row 1 (l.map encZ)) := get_old hk
    simp (maxSteps := 1000000) (disch := omega) only [push_cast, ↓wc_seq, ↓wc_block, ↓wc_region, ↓wr_cons, ↓wr_nil, ↓wc_wl, wo_some, opQ_eq, seqQ_normal, Nat.reduceAdd, Nat.reduceMul, ↓reduceIte, planIds, List.contains_cons, List.contains_nil, Nat.reduceBEq, eq_self, Nat.zero_add, h0]
    refine wl_loop (fun i a T => T = S ++ [cabR y] ∧ a.length = 30 ∧ a[1]? = some (.os k 0 l.length false) ∧ a[2]? = some (.loc S.length 0 0) ∧ a[5]? = some (.int .i64 i)) l.length ?_ (by omega) ?_
    · simp (maxSteps := 1000000) (disch := omega) only [push_cast, Nat.reduceLT, Nat.reduceEqDiff, ↓reduceIte, setC, List.length_set, eq_self, hal, h1, Int.natCast_zero]
    clear hal h0 h1 a
    rintro i a T hi ⟨rfl, hal, h1, h2, h5⟩
    rcases Nat.lt_or_eq_of_le hi with hlt | rfl
    case inr =>
      have he' : (l.length : Int) = y.cls.length := by omega
      simp (maxSteps := 1000000) (disch := omega) only [push_cast, ↓wc_seq, ↓wc_condL, ↓wc_region, ↓wr_cons, ↓wr_nil, ↓wc_exit, ↓wc_ret, wo_some, opQ_eq, seqQ_normal, seqQ_exit, blockQ_exit, iterQ_exit, retQ_ret, pickC_false, int_beq, Nat.reduceAdd, Nat.reduceMul, Nat.reduceLT, Nat.reduceEqDiff, ↓reduceIte, planIds, List.contains_cons, List.contains_nil, Nat.reduceBEq, setC, List.length_set, eq_self, Int.ofNat_lt, Nat.zero_add, hal, h1, h2, h5, Nat.lt_irrefl, get_end, List.length_map, he', Tryz.f91]
      exact ExtS.app
    obtain ⟨v, hv⟩ : ∃ v, l[i]? = some v := ⟨l[i], by simp⟩
    have hb := hr v (List.mem_of_getElem? hv)
    have q1 : ¬ v < 0 := by omega
    have q2 : ¬ (9999 : Int) < v := by omega
    simp (maxSteps := 1000000) (disch := omega) only [push_cast, ↓wc_seq, ↓wc_block, ↓wc_condL, ↓wc_region, ↓wr_cons, ↓wr_consgL, ↓wr_nil, ↓wo_pickL, ↓wc_skip, wo_some, opQ_eq, seqQ_normal, blockQ_normal, iterQ_normal, pickC_true, pickC_false, pickO_false, gstep_ff, Nat.reduceAdd, Nat.reduceMul, Nat.reduceLT, Nat.reduceEqDiff, ↓reduceIte, planIds, List.contains_cons, List.contains_nil, Nat.reduceBEq, setC, List.length_set, eq_self, Int.natCast_nonneg, Int.toNat_natCast, Int.ofNat_lt, Nat.zero_add, gt_iff_lt, hal, h1, h2, h5, hlt, hkx, hv, q1, q2, List.getElem?_map, wrap_ok, Int.natCast_add, Int.natCast_one]
  obtain ⟨_, U, ho, rfl, hx⟩ := this
  exact callD_obsS rfl (by simp [pureL_cons, D.pure]) ho hx rfl
set_option maxHeartbeats 4000000 in
set_option maxRecDepth 100000 in
theorem over_c' {n k i : Nat} {y : Cab} {l : List Int} {S : List Ob} (hn : 130 ≤ n) (hy : CabOk y) (hr : rngI l) (hl : l.length = y.cls.length) (hi : i < l.length) (hk : S[k]? = some (.row 1 (l.map encZ))) (st : Bool) :
    callD E (dcall E n) st S 92 [.agg y.enc, .os k 0 l.length false, .int .i64 i] = some (.int .i64 (-spF y l i), S) := by
  obtain ⟨m, rfl⟩ : ∃ m, n = m + 1 := ⟨n - 1, by omega⟩
  have l2 := hy.l2
  obtain ⟨x, cl⟩ := rLimits_c (n := m) (by omega) hy
  rw [← hl] at cl
  have hkx : (S ++ [cabR y])[k]? = some (.row 1 (l.map encZ)) := get_old hk
  have b1 := limF_le hy i
  have b2 := limF_pos hy i
  have b3 := aut_le hy
  have b4 := drop_bd hr i
  have b5 := drop_bd hr
  have : WO (dcall E (m + 1) 92 [.agg y.enc, .os k 0 l.length false, .int .i64 i] S) fun r T => r = .int .i64 (-spF y l i) ∧ ExtS S T := by
    refine wo_dcall Tryz.func92 rfl (by decide) rfl 29 rfl (fun a hal ha => ?_)
    have h0 : a[0]? = some (.agg y.enc) := ha 0 (by simp)
    have h1 : a[1]? = some (.os k 0 l.length false) := ha 1 (by simp)
    have h2 : a[2]? = some (.int .i64 i) := ha 2 (by simp)
    clear ha
    simp only [Cab.enc] at h0 cl
    simp (maxSteps := 1000000) (disch := omega) only [push_cast, ↓wc_seq, ↓wc_block, ↓wc_region, ↓wr_cons, ↓wr_nil, ↓wo_callf, ↓wc_wl, wo_some, opQ_eq, seqQ_normal, Nat.reduceAdd, Nat.reduceMul, Nat.reduceLT, Nat.reduceLeDiff, Nat.reduceEqDiff, ↓reduceIte, planIds, hasExt, cntFs, idxFs, clnFs, ovlFs, List.contains_cons, List.contains_nil, List.any_cons, List.any_nil, Nat.reduceBEq, setC, List.length_set, eq_self, Int.natCast_nonneg, Int.toNat_natCast, Nat.zero_add, hal, h0, h2, get_end, cl, rowH_get, dUn, wrap_ok]
    refine wl_loop (fun j a T => T = S ++ [cabR y] ∧ a.length = 29 ∧ a[1]? = some (.os k 0 l.length false) ∧ a[7]? = some (.int .i64 ((l.drop i).sum - (l.drop (i + j)).sum - limF y i)) ∧ a[8]? = some (.int .i64 ((i + j : Nat) : Int))) (l.length - i) ?_ (by omega) ?_
    · simp (maxSteps := 1000000) (disch := omega) only [push_cast, Nat.reduceLT, Nat.reduceEqDiff, ↓reduceIte, setC, List.length_set, eq_self, Nat.add_zero, hal, h1, Int.sub_self]
    clear hal h0 h1 h2 a
    rintro j a T hj ⟨rfl, hal, h1, h7, h8⟩
    rcases Nat.lt_or_eq_of_le hj with hlt | rfl
    case inr =>
      have q : ¬ ((i + (l.length - i) : Nat) : Int) < l.length := by omega
      have e : l.drop (i + (l.length - i)) = [] := List.drop_eq_nil_of_le (by omega)
      rw [e, List.sum_nil] at h7
      generalize i + (l.length - i) = p at *
      simp (maxSteps := 1000000) (disch := omega) only [push_cast, ↓wc_seq, ↓wc_condL, ↓wc_region, ↓wr_cons, ↓wr_nil, ↓wc_exit, ↓wc_ret, wo_some, opQ_eq, seqQ_normal, seqQ_exit, blockQ_exit, iterQ_exit, retQ_ret, pickC_false, Nat.reduceAdd, Nat.reduceMul, Nat.reduceLT, Nat.reduceEqDiff, ↓reduceIte, planIds, List.contains_cons, List.contains_nil, Nat.reduceBEq, setC, List.length_set, eq_self, D.int.injEq, Nat.zero_add, hal, h1, h7, h8, q, Tryz.f92]
      exact ⟨by unfold spF; omega, ExtS.app⟩
    obtain ⟨p, hp⟩ : ∃ p, p = i + j := ⟨_, rfl⟩
    rw [← hp] at h7 h8
    have hpl : p < l.length := by omega
    obtain ⟨v, hv⟩ : ∃ v, l[p]? = some v := ⟨l[p], by simp⟩
    have hvb := hr v (List.mem_of_getElem? hv)
    have hsum := drop_sum hv
    have c1 := b5 p
    have c2 := b5 (p + 1)
    have hq : ((i + (j + 1) : Nat) : Int) = (p : Int) + 1 := by omega
    have hq2 : i + (j + 1) = p + 1 := by omega
    simp (maxSteps := 1000000) (disch := omega) only [push_cast, ↓wc_seq, ↓wc_block, ↓wc_condL, ↓wc_region, ↓wr_cons, ↓wr_nil, ↓wc_skip, wo_some, opQ_eq, seqQ_normal, blockQ_normal, iterQ_normal, pickC_true, Nat.reduceAdd, Nat.reduceMul, Nat.reduceLT, Nat.reduceEqDiff, ↓reduceIte, planIds, List.contains_cons, List.contains_nil, Nat.reduceBEq, setC, List.length_set, eq_self, Int.natCast_nonneg, Int.toNat_natCast, Int.ofNat_lt, D.int.injEq, Option.some.injEq, Nat.zero_add, hal, h1, h7, h8, hpl, hkx, hv, List.getElem?_map, wrap_ok]
    rw [hq2]
    exact ⟨by omega, by omega, by omega⟩
  obtain ⟨_, U, ho, rfl, hx⟩ := this
  exact callD_obsS rfl (by simp [pureL_cons, D.pure]) ho hx rfl
/-- The least of what is left in class i and in those before k. -/
def mnF (y : Cab) (l : List Int) (i : Nat) : Nat → Int
  | 0 => spF y l i
  | k + 1 => min (mnF y l i k) (spF y l k)
set_option maxHeartbeats 4000000 in
set_option maxRecDepth 100000 in
theorem rExcess_c {n r : Nat} {y : Cab} {l : List Int} {S : List Ob} (hn : 150 ≤ n) (hy : CabOk y) (hr : rngI l) (hl : l.length = y.cls.length) (hk : S[r]? = some (.row 1 (l.map encZ))) (st : Bool) :
    callD E (dcall E n) st S 115 [.agg y.enc, .os r 0 l.length false] = some (.int .i64 (excF y l l.length), S) := by
  obtain ⟨m, rfl⟩ : ∃ m, n = m + 1 := ⟨n - 1, by omega⟩
  have l1 := hy.l1
  have l2 := hy.l2
  have hkx : (S ++ [cabR y])[r]? = some (.row 1 (l.map encZ)) := get_old hk
  have cr := rRight_c (n := m) (y := y) (by omega) (by omega) hr hl hkx false
  have co := fun j (hj : j < l.length) => over_c' (n := m) (by omega) hy hr hl hj hkx false
  have : WO (dcall E (m + 1) 115 [.agg y.enc, .os r 0 l.length false] S) fun d T => d = .int .i64 (excF y l l.length) ∧ ExtS S T := by
    refine wo_dcall Tryz.func115 rfl (by decide) rfl 25 rfl (fun a hal ha => ?_)
    have h0 : a[0]? = some (.agg y.enc) := ha 0 (by simp)
    have h1 : a[1]? = some (.os r 0 l.length false) := ha 1 (by simp)
    clear ha
    simp only [Cab.enc] at h0 cr co
    simp (maxSteps := 1000000) (disch := omega) only [push_cast, ↓wc_seq, ↓wc_block, ↓wc_region, ↓wr_cons, ↓wr_nil, ↓wc_wl, wo_some, opQ_eq, seqQ_normal, Nat.reduceAdd, Nat.reduceMul, ↓reduceIte, planIds, List.contains_cons, List.contains_nil, Nat.reduceBEq, eq_self, Nat.zero_add, h0]
    refine wl_loop (fun i a T => T = S ++ [cabR y] ∧ a.length = 25 ∧ a[1]? = some (.os r 0 l.length false) ∧ a[2]? = some (.loc S.length 0 0) ∧ a[5]? = some (.int .i64 (excF y l i)) ∧ a[6]? = some (.int .i64 i)) l.length ?_ (by omega) ?_
    · simp (maxSteps := 1000000) (disch := omega) only [push_cast, Nat.reduceLT, Nat.reduceEqDiff, ↓reduceIte, setC, List.length_set, eq_self, hal, h1, Int.natCast_zero, excF]
    clear hal h0 h1 a
    rintro i a T hi ⟨rfl, hal, h1, h2, h5, h6⟩
    rcases Nat.lt_or_eq_of_le hi with hlt | rfl
    case inr =>
      simp (maxSteps := 1000000) (disch := omega) only [push_cast, ↓wc_seq, ↓wc_condL, ↓wc_region, ↓wr_cons, ↓wr_consgL, ↓wr_nil, ↓wo_pickL, ↓wo_callf, ↓wc_exit, ↓wc_ret, wo_some, opQ_eq, seqQ_normal, seqQ_exit, blockQ_exit, iterQ_exit, retQ_ret, pickC_false, pickO_true, gstep_tt, Nat.reduceAdd, Nat.reduceMul, Nat.reduceLT, Nat.reduceLeDiff, Nat.reduceEqDiff, ↓reduceIte, planIds, hasExt, cntFs, idxFs, clnFs, ovlFs, List.contains_cons, List.contains_nil, List.any_cons, List.any_nil, Nat.reduceBEq, setC, List.length_set, eq_self, Int.ofNat_lt, Nat.zero_add, hal, h1, h2, h5, h6, Nat.lt_irrefl, get_end, cr, Tryz.f115]
      exact ExtS.app
    have coi := co i hlt
    have hmax : (if excF y l i < -spF y l i then -spF y l i else excF y l i) = excF y l (i + 1) := by rw [excF]; split <;> omega
    simp (maxSteps := 1000000) (disch := omega) only [push_cast, ↓wc_seq, ↓wc_block, ↓wc_condL, ↓wc_region, ↓wr_cons, ↓wr_consgL, ↓wr_nil, ↓wo_pickL, ↓wo_callf, ↓wc_skip, wo_some, opQ_eq, seqQ_normal, blockQ_normal, iterQ_normal, pickC_true, pickO_true, gstep_tt, Nat.reduceAdd, Nat.reduceMul, Nat.reduceLT, Nat.reduceLeDiff, Nat.reduceEqDiff, ↓reduceIte, planIds, hasExt, cntFs, idxFs, clnFs, ovlFs, List.contains_cons, List.contains_nil, List.any_cons, List.any_nil, Nat.reduceBEq, setC, List.length_set, eq_self, Int.ofNat_lt, Nat.zero_add, hal, h1, h2, h5, h6, hlt, get_end, cr, coi, hmax, wrap_ok, Int.natCast_add, Int.natCast_one]
  obtain ⟨_, U, ho, rfl, hx⟩ := this
  exact callD_obsS rfl (by simp [pureL_cons, D.pure]) ho hx rfl
end Go.Proofs.YthkbiiammhekfaaGreatDoor.Dm
