/-
  The machine at the reference's classes of a cabin.
-/
import Derived.Test.YthkbiiammhekfaaGreatDoorSkN
set_option linter.unusedSimpArgs false
set_option linter.unusedVariables false
namespace Go.Proofs.YthkbiiammhekfaaGreatDoor.Dm
open Go Gw
set_option linter.unusedSimpArgs false
set_option linter.unusedSimpArgs false

theorem el_int : elemT Tryz.prog 119 = some 3 := by kernel_rfl
theorem sz_int : sizeT Tryz.prog 3 = some 1 := by kernel_rfl
theorem ze_int : zeroT Tryz.prog 3 = some (.int .i64 0) := by kernel_rfl
theorem by_int : bytesT Tryz.prog 3 ≤ 100000 := by
 have : bytesT Tryz.prog 3 = 8 := by kernel_rfl
 rw [this]; omega
theorem app_z {S : List Ob} {d : D} {l : List Int} (h : GL 1 encZ S d l) (hl : l.length ≤ 100000) (v : Int) :
  ∃ S', dAppend Tryz.prog S 119 119 d (.sl 1 [[.int .i64 v]] true) = some (.os S.length 0 (l.length + 1) false, S') ∧ GL 1 encZ S' (.os S.length 0 (l.length + 1) false) (l ++ [v]) ∧ S'.length = S.length + 1 ∧ (∀ k o, (∀ n, d = .os k 0 n false → False) → S[k]? = some o → S'[k]? = some o) ∧ (∀ (k sz : Nat) (es : List (List D)), sz ≠ 1 → S[k]? = some (.row sz es) → S'[k]? = some (.row sz es)) :=
 app_gl el_int sz_int ze_int rfl by_int h hl v
def upTo (f : Nat → Int) (i : Nat) : List Int := (List.range i).map f
theorem upTo_succ (f : Nat → Int) (i : Nat) : upTo f i ++ [f i] = upTo f (i + 1) := by simp [upTo, List.range_succ]
theorem upTo_len (f : Nat → Int) (i : Nat) : (upTo f i).length = i := by simp [upTo]
theorem upTo_row (f : Nat → Int) (i : Nat) : (upTo f i).map encZ = rowH i f := by simp [upTo, rowH, List.map_map]
set_option maxHeartbeats 4000000 in
set_option maxRecDepth 100000 in
theorem rLimits_d {n : Nat} {y : Cab} (hn : 110 ≤ n) (hy : CabOk y) : WO (dcall E (n + 1) 131 [.agg y.enc] []) fun r T => GL 1 encZ T r (upTo (limF y) y.cls.length) := by
 obtain ⟨s1, s2, o1, o2, l1, l2, hp, hm⟩ := hy
 have ca := rAuth_c (n := n) (by omega) (y := y) (by omega) (by omega) (by omega) (by omega)
 have hau : 0 ≤ autF y ∧ autF y ≤ 1998 := by unfold autF; omega
 refine wo_dcall Tryz.func131 rfl (by decide) rfl 31 rfl (fun a hal ha => ?_)
 have h0 : a[0]? = some (.agg y.enc) := ha 0 (by simp)
 clear ha
 simp only [Cab.enc] at h0 ca
 simp (maxSteps := 1000000) (disch := omega) only [push_cast, ↓wc_seq, ↓wc_block, ↓wc_region, ↓wr_cons, ↓wr_nil, ↓wc_wl, Nat.reduceAdd, Nat.reduceMul, ↓reduceIte, Nat.reduceBEq, h0]
 refine wl_loop (fun i a T => a.length = 31 ∧ a[1]? = some (.loc 0 0 0) ∧ a[4]? = some (.int .i64 i) ∧ T[0]? = some (cabR y) ∧ ∃ d, a[3]? = some d ∧ GL 1 encZ T d (upTo (limF y) i)) y.cls.length ?_ (by omega) ?_
 ·simp (maxSteps := 1000000) (disch := omega) only [push_cast, Nat.reduceLT, Nat.reduceEqDiff, ↓reduceIte, hal, Int.natCast_zero]
  exact ⟨_, rfl, GL.nil⟩
 clear hal h0 a
 rintro i a T hi ⟨hal, h1, h4, hT0, d, h3, hg⟩
 rcases Nat.lt_or_eq_of_le hi with hlt | rfl
 case inr =>
  simp (maxSteps := 1000000) (disch := omega) only [push_cast, ↓wc_seq, ↓wc_condL, ↓wc_region, ↓wr_cons, ↓wr_nil, ↓wc_exit, ↓wc_ret, Nat.reduceAdd, Nat.reduceMul, Nat.reduceLT, Nat.reduceEqDiff, ↓reduceIte, Nat.reduceBEq, hal, h1, h3, h4, Nat.lt_irrefl, hT0, Tryz.f131]
  exact hg
 obtain ⟨T', ha, hg', hlen, -, hrow⟩ := app_z hg (by rw [upTo_len]; omega) (limF y i)
 rw [upTo_succ, upTo_len] at hg'
 rw [upTo_len] at ha
 have hT0' := hrow 0 4 _ (by decide) hT0
 by_cases hi0 : i = 0
 ·have hi1 : ¬ (0 : Int) < i := by omega
  have hl : limF y i = autF y := by rw [hi0]; rfl
  rw [hl] at ha
  simp (maxSteps := 1000000) (disch := omega) only [push_cast, ↓wc_seq, ↓wc_block, ↓wc_condL, ↓wc_region, ↓wr_cons, ↓wr_nil, ↓wo_callf, ↓wc_skip, Nat.reduceAdd, Nat.reduceMul, Nat.reducePow, Nat.reduceLT, Nat.reduceLeDiff, Nat.reduceEqDiff, ↓wo_buildSlice, ↓reduceIte, Nat.reduceBEq, gt_iff_lt, hal, h1, h3, h4, hlt, hT0, ca, hi1, ha, wrap_ok, Int.natCast_add, Int.natCast_one]
  exact ⟨hT0', _, rfl, hg'⟩
 ·have hi1 : (0 : Int) < i := by omega
  have hi2 : ((i : Int) - 1).toNat = i - 1 := by omega
  have hi3 : (0 : Int) ≤ (i : Int) - 1 := by omega
  obtain ⟨z, hz⟩ : ∃ z, y.cls[i - 1]? = some z := ⟨y.cls[i - 1], by simp⟩
  have hzp := hp (i - 1) z hz
  have hl : limF y i = autF y - z.prot := by
   obtain ⟨q, rfl⟩ : ∃ q, i = q + 1 := ⟨i - 1, by omega⟩
   simp only [Nat.add_sub_cancel] at hz
   simp [limF, hz]
  rw [hl] at ha
  simp (maxSteps := 1000000) (disch := omega) only [push_cast, ↓wc_seq, ↓wc_block, ↓wc_condL, ↓wc_region, ↓wr_cons, ↓wr_nil, ↓wo_callf, ↓wc_skip, Nat.reduceAdd, Nat.reduceMul, Nat.reducePow, Nat.reduceLT, Nat.reduceLeDiff, Nat.reduceEqDiff, ↓wo_buildSlice, ↓reduceIte, Nat.reduceBEq, gt_iff_lt, hal, h1, h3, h4, hlt, hT0, ca, hi1, hi2, hi3, hz, ha, Cls.enc, wrap_ok, Int.natCast_add, Int.natCast_one]
  exact ⟨hT0', _, rfl, hg'⟩
theorem rLimits_c {n : Nat} {y : Cab} (hn : 120 ≤ n) (hy : CabOk y) : ∃ x, ∀ st S, callD E (dcall E n) st S 131 [.agg y.enc] = some (.sl 1 (rowH y.cls.length (limF y)) x, S) := by
 obtain ⟨m, rfl⟩ : ∃ m, n = m + 1 := ⟨n - 1, by omega⟩
 have l1 := hy.l1
 obtain ⟨d, T, ho, hg⟩ := rLimits_d (n := m) (by omega) hy
 obtain ⟨d', hf, hd⟩ := hg.fls (zs_pure _)
 rcases hd with ⟨-, h⟩ | ⟨x, rfl⟩
 ·have := congrArg List.length h
  rw [upTo_len, List.length_nil] at this
  omega
 ·rw [upTo_row] at hf
  exact ⟨x, fun st S => callD_pure rfl (by simp [pureL_cons, pureL_nil, D.pure, Cab_pure]) ho hf⟩
set_option maxHeartbeats 4000000 in
set_option maxRecDepth 100000 in
theorem rRight_c {n k : Nat} {y : Cab} {l : List Int} {S : List Ob} (hl : l.length ≤ 100) (hn : 120 ≤ n) (hr : rngI l) (he : l.length = y.cls.length) (hk : S[k]? = some (.row 1 (l.map encZ))) (st : Bool) :
  callD E (dcall E n) st S 91 [.agg y.enc, .os k 0 l.length false] = some (.bool true, S) := by
 obtain ⟨m, rfl⟩ : ∃ m, n = m + 1 := ⟨n - 1, by omega⟩
 have : WO (dcall E (m + 1) 91 [.agg y.enc, .os k 0 l.length false] S) fun r T => r = .bool true ∧ ExtS S T := by
  refine wo_dcall Tryz.func91 rfl (by decide) rfl 30 rfl (fun a hal ha => ?_)
  have h0 : a[0]? = some (.agg y.enc) := ha 0 (by simp)
  have h1 : a[1]? = some (.os k 0 l.length false) := ha 1 (by simp)
  clear ha
  simp only [Cab.enc] at h0
  have hkx : (S ++ [cabR y])[k]? = some (.row 1 (l.map encZ)) := get_old hk
  simp (maxSteps := 1000000) (disch := omega) only [push_cast, ↓wc_seq, ↓wc_block, ↓wc_region, ↓wr_cons, ↓wr_nil, ↓wc_wl, Nat.reduceAdd, Nat.reduceMul, ↓reduceIte, Nat.reduceBEq, h0]
  refine wl_loop (fun i a T => T = S ++ [cabR y] ∧ a.length = 30 ∧ a[1]? = some (.os k 0 l.length false) ∧ a[2]? = some (.loc S.length 0 0) ∧ a[5]? = some (.int .i64 i)) l.length ?_ (by omega) ?_
  ·simp (maxSteps := 1000000) (disch := omega) only [push_cast, Nat.reduceLT, Nat.reduceEqDiff, ↓reduceIte, hal, h1, Int.natCast_zero]
  clear hal h0 h1 a
  rintro i a T hi ⟨rfl, hal, h1, h2, h5⟩
  rcases Nat.lt_or_eq_of_le hi with hlt | rfl
  case inr =>
   have he' : (l.length : Int) = y.cls.length := by omega
   simp (maxSteps := 1000000) (disch := omega) only [push_cast, ↓wc_seq, ↓wc_condL, ↓wc_region, ↓wr_cons, ↓wr_nil, ↓wc_exit, ↓wc_ret, Nat.reduceAdd, Nat.reduceMul, Nat.reduceLT, Nat.reduceEqDiff, ↓reduceIte, Nat.reduceBEq, hal, h1, h2, h5, Nat.lt_irrefl, get_end, he', Tryz.f91]
   exact ExtS.app
  obtain ⟨v, hv⟩ : ∃ v, l[i]? = some v := ⟨l[i], by simp⟩
  have hb := hr v (List.mem_of_getElem? hv)
  have q1 : ¬ v < 0 := by omega
  have q2 : ¬ (9999 : Int) < v := by omega
  simp (maxSteps := 1000000) (disch := omega) only [push_cast, ↓wc_seq, ↓wc_block, ↓wc_condL, ↓wc_region, ↓wr_cons, ↓wr_consgL, ↓wr_nil, ↓wo_pickL, ↓wc_skip, Nat.reduceAdd, Nat.reduceMul, Nat.reduceLT, Nat.reduceEqDiff, ↓reduceIte, Nat.reduceBEq, gt_iff_lt, hal, h1, h2, h5, hlt, hkx, hv, q1, q2, wrap_ok, Int.natCast_add, Int.natCast_one]
 obtain ⟨_, U, ho, rfl, hx⟩ := this
 exact callD_obsS rfl (by simp [pureL_cons, D.pure]) ho hx rfl
set_option maxHeartbeats 4000000 in
set_option maxRecDepth 100000 in
theorem over_c' {n k i : Nat} {y : Cab} {l : List Int} {S : List Ob} (hn : 130 ≤ n) (hy : CabOk y) (hr : rngI l) (hl : l.length = y.cls.length) (hi : i < l.length) (hk : S[k]? = some (.row 1 (l.map encZ))) (st : Bool) :
  callD E (dcall E n) st S 92 [.agg y.enc, .os k 0 l.length false, .int .i64 i] = some (.int .i64 (-spF y l i), S) := by
 obtain ⟨m, rfl⟩ : ∃ m, n = m + 1 := ⟨n - 1, by omega⟩
 have l2 := hy.l2
 obtain ⟨x, cl⟩ := rLimits_c (n := m) (by omega) hy
 rw [← hl] at cl
 have hkx : (S ++ [cabR y])[k]? = some (.row 1 (l.map encZ)) := get_old hk
 have b1 := limF_le hy i
 have b2 := limF_pos hy i
 have b3 := aut_le hy
 have b4 := drop_bd hr i
 have b5 := drop_bd hr
 have : WO (dcall E (m + 1) 92 [.agg y.enc, .os k 0 l.length false, .int .i64 i] S) fun r T => r = .int .i64 (-spF y l i) ∧ ExtS S T := by
  refine wo_dcall Tryz.func92 rfl (by decide) rfl 29 rfl (fun a hal ha => ?_)
  have h0 : a[0]? = some (.agg y.enc) := ha 0 (by simp)
  have h1 : a[1]? = some (.os k 0 l.length false) := ha 1 (by simp)
  have h2 : a[2]? = some (.int .i64 i) := ha 2 (by simp)
  clear ha
  simp only [Cab.enc] at h0 cl
  simp (maxSteps := 1000000) (disch := omega) only [push_cast, ↓wc_seq, ↓wc_block, ↓wc_region, ↓wr_cons, ↓wr_nil, ↓wo_callf, ↓wc_wl, Nat.reduceAdd, Nat.reduceMul, Nat.reduceLT, Nat.reduceLeDiff, Nat.reduceEqDiff, ↓reduceIte, Nat.reduceBEq, hal, h0, h2, get_end, cl, rowH_get, dUn, wrap_ok]
  refine wl_loop (fun j a T => T = S ++ [cabR y] ∧ a.length = 29 ∧ a[1]? = some (.os k 0 l.length false) ∧ a[7]? = some (.int .i64 ((l.drop i).sum - (l.drop (i + j)).sum - limF y i)) ∧ a[8]? = some (.int .i64 ((i + j : Nat) : Int))) (l.length - i) ?_ (by omega) ?_
  ·simp (maxSteps := 1000000) (disch := omega) only [push_cast, Nat.reduceLT, Nat.reduceEqDiff, ↓reduceIte, hal, h1, Int.sub_self]
  clear hal h0 h1 h2 a
  rintro j a T hj ⟨rfl, hal, h1, h7, h8⟩
  rcases Nat.lt_or_eq_of_le hj with hlt | rfl
  case inr =>
   have q : ¬ ((i + (l.length - i) : Nat) : Int) < l.length := by omega
   have e : l.drop (i + (l.length - i)) = [] := List.drop_eq_nil_of_le (by omega)
   rw [e, List.sum_nil] at h7
   generalize i + (l.length - i) = p at *
   simp (maxSteps := 1000000) (disch := omega) only [push_cast, ↓wc_seq, ↓wc_condL, ↓wc_region, ↓wr_cons, ↓wr_nil, ↓wc_exit, ↓wc_ret, Nat.reduceAdd, Nat.reduceMul, Nat.reduceLT, Nat.reduceEqDiff, ↓reduceIte, Nat.reduceBEq, hal, h1, h7, h8, q, Tryz.f92]
   exact ⟨by unfold spF; omega, ExtS.app⟩
  obtain ⟨p, hp⟩ : ∃ p, p = i + j := ⟨_, rfl⟩
  rw [← hp] at h7 h8
  have hpl : p < l.length := by omega
  obtain ⟨v, hv⟩ : ∃ v, l[p]? = some v := ⟨l[p], by simp⟩
  have hvb := hr v (List.mem_of_getElem? hv)
  have hsum := drop_sum hv
  have c1 := b5 p
  have c2 := b5 (p + 1)
  have hq : ((i + (j + 1) : Nat) : Int) = (p : Int) + 1 := by omega
  have hq2 : i + (j + 1) = p + 1 := by omega
  simp (maxSteps := 1000000) (disch := omega) only [push_cast, ↓wc_seq, ↓wc_block, ↓wc_condL, ↓wc_region, ↓wr_cons, ↓wr_nil, ↓wc_skip, Nat.reduceAdd, Nat.reduceMul, Nat.reduceLT, Nat.reduceEqDiff, ↓reduceIte, Nat.reduceBEq, hal, h1, h7, h8, hpl, hkx, hv, wrap_ok]
  rw [hq2]
  exact ⟨by omega, by omega, by omega⟩
 obtain ⟨_, U, ho, rfl, hx⟩ := this
 exact callD_obsS rfl (by simp [pureL_cons, D.pure]) ho hx rfl
def mnF (y : Cab) (l : List Int) (i : Nat) : Nat → Int
 | 0 => spF y l i
 | k + 1 => min (mnF y l i k) (spF y l k)
theorem mnF_av (y : Cab) (l : List Int) (i : Nat) : ∀ k, mnF y l i (k + 1) = min (spF y l i) (avF y l k)
 | 0 => rfl
 | k + 1 => by
  rw [mnF, mnF_av y l i k, avF]
  omega
theorem mnF_self (y : Cab) (l : List Int) (i : Nat) : mnF y l i i = avF y l i := by
 cases i with
 | zero => rfl
 | succ i => rw [mnF_av, avF]; omega
set_option maxHeartbeats 4000000 in
set_option maxRecDepth 100000 in
theorem rOpen_d {n r : Nat} {y : Cab} {l : List Int} {S : List Ob} (hn : 140 ≤ n) (hy : CabOk y) (hr : rngI l) (hl : l.length = y.cls.length) (hk : S[r]? = some (.row 1 (l.map encZ))) :
  WO (dcall E (n + 1) 51 [.agg y.enc, .os r 0 l.length false] S) fun d T => ∃ k, d = .os k 0 l.length false ∧ T[k]? = some (.row 1 (rowH l.length fun i => max 0 (avF y l i))) ∧ S.length ≤ k ∧ ExtS S T := by
 have l1 := hy.l1
 have l2 := hy.l2
 refine wo_dcall Tryz.func51 rfl (by decide) rfl 43 rfl (fun a hal ha => ?_)
 have h0 : a[0]? = some (.agg y.enc) := ha 0 (by simp)
 have h1 : a[1]? = some (.os r 0 l.length false) := ha 1 (by simp)
 clear ha
 simp only [Cab.enc] at h0
 simp (maxSteps := 1000000) (disch := omega) only [push_cast, ↓wc_seq, ↓wc_block, ↓wc_region, ↓wr_cons, ↓wr_nil, ↓wc_wl, Nat.reduceAdd, Nat.reduceMul, ↓reduceIte, Nat.reduceBEq, h0]
 refine wl_loop (fun i a T => a.length = 43 ∧ a[1]? = some (.os r 0 l.length false) ∧ a[2]? = some (.loc S.length 0 0) ∧ a[6]? = some (.int .i64 i) ∧ T[S.length]? = some (cabR y) ∧ ExtS S T ∧ ∃ d, a[5]? = some d ∧ GL 1 encZ T d (upTo (fun i => max 0 (avF y l i)) i) ∧ (∀ k n, d = .os k 0 n false → S.length < k)) l.length ?_ (by omega) ?_
 ·simp (maxSteps := 1000000) (disch := omega) only [push_cast, Nat.reduceLT, Nat.reduceEqDiff, ↓reduceIte, hal, h1, Int.natCast_zero]
  exact ⟨get_end, ExtS.app, _, rfl, GL.nil, fun k n h => by cases h⟩
 clear hal h0 h1 a
 rintro i a T hi ⟨hal, h1, h2, h6, hT0, hx, d, h5, hg, hd⟩
 have hrT := hx r _ hk
 have hlT : S.length < T.length := lt_of_get hT0
 have cr := rRight_c (n := n) (y := y) (by omega) (by omega) hr hl hrT false
 simp only [Cab.enc] at cr
 rcases Nat.lt_or_eq_of_le hi with hlt | rfl
 case inr =>
  rcases hg with ⟨-, h⟩ | ⟨k, rfl, hk'⟩
  ·have := congrArg List.length h
   rw [upTo_len, List.length_nil] at this
   omega
  ·rw [upTo_row] at hk'
   rw [upTo_len] at h5
   simp (maxSteps := 1000000) (disch := omega) only [push_cast, ↓wc_seq, ↓wc_condL, ↓wc_region, ↓wr_cons, ↓wr_consgL, ↓wr_nil, ↓wo_pickL, ↓wo_callf, ↓wc_exit, ↓wc_ret, Nat.reduceAdd, Nat.reduceMul, Nat.reduceLT, Nat.reduceLeDiff, Nat.reduceEqDiff, ↓reduceIte, Nat.reduceBEq, hal, h1, h2, h5, h6, Nat.lt_irrefl, hT0, cr, Tryz.f51]
   exact ⟨k, rfl, hk', Nat.le_of_lt (hd _ _ rfl), hx⟩
 have co := fun j (hj : j < l.length) => over_c' (n := n) (by omega) hy hr hl hj hrT false
 have coi := co i hlt
 have hsp := fun j => spF_bd hy hr (by omega) j
 have hspi := hsp i
 simp only [Cab.enc] at coi
 have hneg : IntKind.i64.wrap (0 - -spF y l i) = spF y l i := by rw [wrap_ok (by omega) (by omega)]; omega
 simp (maxSteps := 1000000) (disch := omega) only [push_cast, ↓wc_seq, ↓wc_block, ↓wc_condL, ↓wc_region, ↓wr_cons, ↓wr_consgL, ↓wr_nil, ↓wo_pickL, ↓wo_callf, ↓wc_skip, ↓wc_wl, Nat.reduceAdd, Nat.reduceMul, Nat.reduceLT, Nat.reduceLeDiff, Nat.reduceEqDiff, ↓reduceIte, Nat.reduceBEq, hal, h1, h2, h6, hlt, hT0, cr, coi, dUn, hneg]
 refine wl_loop (fun k b U => U = T ∧ b.length = 43 ∧ b[1]? = some (.os r 0 l.length false) ∧ b[2]? = some (.loc S.length 0 0) ∧ b[5]? = some d ∧ b[6]? = some (.int .i64 i) ∧ b[7]? = some (.int .i64 (mnF y l i k)) ∧ b[8]? = some (.int .i64 k)) i ?_ (by omega) ?_
 ·simp (maxSteps := 1000000) (disch := omega) only [push_cast, Nat.reduceLT, Nat.reduceEqDiff, ↓reduceIte, hal, h1, h2, h5, h6, Int.natCast_zero, mnF]
 clear hal h1 h2 h5 h6 a
 rintro k a U hk' ⟨rfl, hal, h1, h2, h5, h6, h7, h8⟩
 rcases Nat.lt_or_eq_of_le hk' with hlk | rfl
 case inr =>
  rw [mnF_self] at h7
  have hav := avF_bd hy hr (by omega) k
  have hmax : (if avF y l k < 0 then 0 else avF y l k) = max 0 (avF y l k) := by split <;> omega
  obtain ⟨T', ha, hg', hlen, hkeep, hrow⟩ := app_z hg (by rw [upTo_len]; omega) (max 0 (avF y l k))
  rw [upTo_succ (fun i => max 0 (avF y l i)), upTo_len] at hg'
  rw [upTo_len] at ha
  have hT0' := hrow _ 4 _ (by decide) hT0
  simp (maxSteps := 1000000) (disch := omega) only [push_cast, ↓wc_seq, ↓wc_condL, ↓wc_region, ↓wr_cons, ↓wr_nil, ↓wc_exit, Nat.reduceAdd, Nat.reduceMul, Nat.reducePow, Nat.reduceLT, Nat.reduceLeDiff, Nat.reduceEqDiff, ↓wo_buildSlice, ↓reduceIte, Nat.reduceBEq, hal, h1, h2, h5, h6, h7, h8, Nat.lt_irrefl, hmax, ha, hlt, wrap_ok, Int.natCast_add, Int.natCast_one]
  refine ⟨hT0', fun j o hj => hkeep j o (fun n e => ?_) (hx j o hj), _, rfl, hg', fun j n e => ?_⟩
  ·have := hd _ _ e
   have := lt_of_get hj
   omega
  ·injection e with e1; omega
 have cok := co k (by omega)
 simp only [Cab.enc] at cok
 have hspk := hsp k
 have hnegk : IntKind.i64.wrap (0 - -spF y l k) = spF y l k := by rw [wrap_ok (by omega) (by omega)]; omega
 have hmin : (if spF y l k < mnF y l i k then spF y l k else mnF y l i k) = mnF y l i (k + 1) := by rw [mnF]; split <;> omega
 simp (maxSteps := 1000000) (disch := omega) only [push_cast, ↓wc_seq, ↓wc_block, ↓wc_condL, ↓wc_region, ↓wr_cons, ↓wr_nil, ↓wo_callf, ↓wc_skip, Nat.reduceAdd, Nat.reduceMul, Nat.reduceLT, Nat.reduceLeDiff, Nat.reduceEqDiff, ↓reduceIte, Nat.reduceBEq, hal, h1, h2, h5, h6, h7, h8, hlk, hT0, cok, dUn, hnegk, hmin, wrap_ok, Int.natCast_add, Int.natCast_one]
theorem rOpen_c {n r : Nat} {y : Cab} {l : List Int} {S : List Ob} (hn : 150 ≤ n) (hy : CabOk y) (hr : rngI l) (hl : l.length = y.cls.length) (hk : S[r]? = some (.row 1 (l.map encZ))) :
  ∃ k T, (∀ st, callD E (dcall E n) st S 51 [.agg y.enc, .os r 0 l.length false] = some (.os k 0 l.length false, T)) ∧ T[k]? = some (.row 1 (rowH l.length fun i => max 0 (avF y l i))) ∧ S.length ≤ k ∧ ExtS S T := by
 obtain ⟨m, rfl⟩ : ∃ m, n = m + 1 := ⟨n - 1, by omega⟩
 obtain ⟨d, T, ho, k, rfl, h1, h2, h3⟩ := rOpen_d (n := m) (by omega) hy hr hl hk
 exact ⟨k, T, fun st => callD_extS rfl ho h3, h1, h2, h3⟩
end Go.Proofs.YthkbiiammhekfaaGreatDoor.Dm
