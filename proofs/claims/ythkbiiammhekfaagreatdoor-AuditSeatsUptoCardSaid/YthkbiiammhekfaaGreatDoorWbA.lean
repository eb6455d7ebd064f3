/-
  The reference's violations of configurations, of any size that the bound allows.
-/
import Derived.Test.YthkbiiammhekfaaGreatDoorSkQ
set_option linter.unusedSimpArgs false
set_option linter.unusedVariables false
namespace Go.Proofs.YthkbiiammhekfaaGreatDoor.Dm
open Go Gw
set_option linter.unusedSimpArgs false
set_option linter.unusedSimpArgs false
namespace Wb

/-- Texts, and lists of cabins and classes, that are not too long. -/
structure CfgB (c : Cfg) : Prop where
  eq : c.equip.size ≤ 1048576
  nm : ∀ y ∈ c.cabs, y.name.size ≤ 1048576
  cl : ∀ y ∈ c.cabs, ∀ z ∈ y.cls, z.code.size ≤ 1048576
  cabs : c.cabs.length ≤ 262144
  cls : ∀ y ∈ c.cabs, y.cls.length ≤ 1048576
theorem CfgB.z {c : Cfg} (h : CfgB c) {n : Nat} (hn : 2000000 ≤ n) : CfgZ n c :=
  ⟨by have := h.eq; omega, fun y hy => by have := h.nm y hy; omega, fun y hy z hz => by have := h.cl y hy z hz; omega⟩
def digs : ByteArray := ByteArray.mk #[48, 49, 50, 51, 52, 53, 54, 55, 56, 57]
theorem digW : ∀ (k : Nat) {n i : Nat}, k ≤ 10 → i < 10 ^ (k + 1) → k + 2 ≤ n → ∃ s : ByteArray, s.size ≤ k + 1 ∧ ∀ st S, callD E (dcall E n) st S 114 [.int .u64 i] = some (.str s, S)
  | k, n, i, hk, hi, hn => by
    obtain ⟨m, rfl⟩ : ∃ m, n = m + 1 := ⟨n - 1, by omega⟩
    have hbig : 10 ^ (k + 1) ≤ 10 ^ 11 := Nat.pow_le_pow_right (by omega) (by omega)
    have w1 : ∀ j : Nat, j < 10 → IntKind.u64.wrap ((j : Int) + 1) = (j : Int) + 1 := fun j hj => Int.emod_eq_of_lt (by omega) (by show (j : Int) + 1 < 18446744073709551616; omega)
    have s1 : ∀ j : Nat, j < 10 → (ByteArray.extract digs j (j + 1)).size = 1 := fun j hj => by
      rw [ByteArray.size_extract]
      show min (j + 1) 10 - j = 1
      omega
    by_cases h10 : i < 10
    · have : WO (dcall E (m + 1) 114 [.int .u64 i] []) fun d T => d = .str (ByteArray.extract digs i (i + 1)) := by
        refine wo_dcall Tryz.func114 rfl (by decide) rfl 19 rfl (fun a hal ha => ?_)
        have h0 : a[0]? = some (.int .u64 i) := ha 0 (by simp)
        clear ha
        have hc : (i : Int) < 10 := by omega
        have q1 : (0 : Int) ≤ (i : Int) + 1 := by omega
        have q2 : ((i : Int) + 1).toNat = i + 1 := by omega
        have q3 : i ≤ i + 1 := by omega
        have q4 : i + 1 ≤ 10 := by omega
        have q5 : (ByteArray.mk #[48, 49, 50, 51, 52, 53, 54, 55, 56, 57]).size = 10 := rfl
        unfold digs
        simp (maxSteps := 1000000) (disch := omega) only [push_cast, ↓wc_seq, ↓wc_condL, ↓wc_region, ↓wr_cons, ↓wr_nil, ↓wc_ret, wo_some, opQ_eq, seqQ_normal, seqQ_ret, retQ_ret, pickC_true, Nat.reduceAdd, Nat.reduceMul, Nat.reduceLT, Nat.reduceEqDiff, ↓reduceIte, planIds, List.contains_cons, List.contains_nil, Nat.reduceBEq, setC, List.length_set, reduceCtorEq, eq_self, Int.natCast_nonneg, Int.toNat_natCast, Nat.zero_add, hal, h0, hc, w1 i h10, q1, q2, q3, q4, q5, and_self, Tryz.f114]
      obtain ⟨d, T, ho, rfl⟩ := this
      exact ⟨_, by rw [s1 i h10]; omega, fun st S => callD_pure rfl rfl ho rfl⟩
    · obtain ⟨k', rfl⟩ : ∃ k', k = k' + 1 := ⟨k - 1, by
        rcases Nat.eq_zero_or_pos k with rfl | h
        · simp at hi; omega
        · omega⟩
      obtain ⟨s, hs, cs⟩ := digW k' (n := m) (i := i / 10) (by omega) (by rw [Nat.pow_succ] at hi; omega) (by omega)
      have hs2 := s1 (i % 10) (by omega)
      refine ⟨s ++ ByteArray.extract digs (i % 10) (i % 10 + 1), by rw [ba_len, hs2]; omega, ?_⟩
      have : WO (dcall E (m + 1) 114 [.int .u64 i] []) fun d T => d = .str (s ++ ByteArray.extract digs (i % 10) (i % 10 + 1)) := by
        refine wo_dcall Tryz.func114 rfl (by decide) rfl 19 rfl (fun a hal ha => ?_)
        have h0 : a[0]? = some (.int .u64 i) := ha 0 (by simp)
        clear ha
        have hc : ¬ (i : Int) < 10 := by omega
        obtain ⟨r, hr⟩ : ∃ r, r = i % 10 := ⟨_, rfl⟩
        obtain ⟨q, hq⟩ : ∃ q, q = i / 10 := ⟨_, rfl⟩
        have hrl : r < 10 := by omega
        have t1 : (i : Int).tmod 10 = r := by rw [hr]; exact (Int.ofNat_tmod i 10).symm
        have t2 : IntKind.u64.wrap ((i : Int).tdiv 10) = q := by
          rw [Int.tdiv_eq_ediv_of_nonneg (by omega), show (i : Int) / 10 = (q : Nat) by omega]
          exact Int.emod_eq_of_lt (by omega) (by show (q : Int) < 18446744073709551616; omega)
        have m1 := mx_of (a := s) (b := ByteArray.extract digs r (r + 1)) (by rw [s1 r hrl]; omega)
        have q1 : (0 : Int) ≤ (r : Int) + 1 := by omega
        have q2 : ((r : Int) + 1).toNat = r + 1 := by omega
        have q3 : r ≤ r + 1 := by omega
        have q4 : r + 1 ≤ 10 := by omega
        have q5 : (ByteArray.mk #[48, 49, 50, 51, 52, 53, 54, 55, 56, 57]).size = 10 := rfl
        rw [← hq] at cs
        rw [← hr]
        unfold digs at m1 ⊢
        simp (maxSteps := 1000000) (disch := omega) only [push_cast, ↓wc_seq, ↓wc_condL, ↓wc_region, ↓wr_cons, ↓wr_nil, ↓wo_callf, ↓wc_ret, ↓wc_skip, wo_some, opQ_eq, seqQ_normal, retQ_ret, pickC_false, Nat.reduceAdd, Nat.reduceMul, Nat.reduceLT, Nat.reduceEqDiff, Int.reduceEq, ↓reduceIte, planIds, hasExt, cntFs, idxFs, clnFs, ovlFs, List.contains_cons, List.contains_nil, List.any_cons, List.any_nil, Nat.reduceBEq, setC, List.length_set, reduceCtorEq, eq_self, Int.natCast_nonneg, Int.toNat_natCast, Nat.zero_add, gt_iff_lt, hal, h0, hc, t1, t2, w1 r hrl, cs, m1, q1, q2, q3, q4, q5, and_self, Tryz.f114]
      obtain ⟨d, T, ho, rfl⟩ := this
      exact fun st S => callD_pure rfl rfl ho rfl
theorem rdecW {n i : Nat} (hn : 20 ≤ n) (hi : i < 1000000000) : ∃ s : ByteArray, s.size ≤ 10 ∧ ∀ st S, callD E (dcall E n) st S 63 [.int .i64 i] = some (.str s, S) := by
  obtain ⟨m, rfl⟩ : ∃ m, n = m + 1 := ⟨n - 1, by omega⟩
  obtain ⟨s, hs, cs⟩ := digW 9 (n := m) (i := i) (by omega) (by omega) (by omega)
  refine ⟨s, hs, ?_⟩
  have : WO (dcall E (m + 1) 63 [.int .i64 i] []) fun d T => d = .str s := by
    refine wo_dcall Tryz.func63 rfl (by decide) rfl 15 rfl (fun a hal ha => ?_)
    have h0 : a[0]? = some (.int .i64 i) := ha 0 (by simp)
    clear ha
    have hc : ¬ (i : Int) < 0 := by omega
    have w1 : IntKind.u64.wrap (i : Int) = i := Int.emod_eq_of_lt (by omega) (by show (i : Int) < 18446744073709551616; omega)
    simp (maxSteps := 1000000) (disch := omega) only [push_cast, ↓wc_seq, ↓wc_condL, ↓wc_region, ↓wr_cons, ↓wr_nil, ↓wo_callf, ↓wc_ret, ↓wc_skip, wo_some, opQ_eq, seqQ_normal, retQ_ret, pickC_false, Nat.reduceAdd, Nat.reduceMul, Nat.reduceLT, ↓reduceIte, planIds, hasExt, cntFs, idxFs, clnFs, ovlFs, List.contains_cons, List.contains_nil, List.any_cons, List.any_nil, Nat.reduceBEq, setC, List.length_set, reduceCtorEq, eq_self, Nat.zero_add, hal, h0, hc, w1, cs, Tryz.f63]
  obtain ⟨d, T, ho, rfl⟩ := this
  exact fun st S => callD_pure rfl rfl ho rfl
theorem placeW {n i : Nat} {p w : ByteArray} (hn : 50 ≤ n) (hi : i < 1000000000) (hp : p.size ≤ 900) (hw : w.size ≤ 10) : ∃ s : ByteArray, s.size ≤ p.size + 30 ∧ ∀ st S, callD E (dcall E n) st S 53 [.str p, .str w, .int .i64 i] = some (.str s, S) := by
  obtain ⟨m, rfl⟩ : ∃ m, n = m + 1 := ⟨n - 1, by omega⟩
  obtain ⟨s, hs, cd⟩ := rdecW (n := m) (i := i) (by omega) hi
  have h1s : (ByteArray.mk #[32]).size = 1 := rfl
  by_cases hne : p = ByteArray.mk #[]
  · subst hne
    obtain ⟨p, hp'⟩ : ∃ p, p = ByteArray.mk #[] := ⟨_, rfl⟩
    rw [← hp'] at hp ⊢
    refine ⟨p ++ w ++ ByteArray.mk #[32] ++ s, by rw [ba_len, ba_len, ba_len]; omega, ?_⟩
    have : WO (dcall E (m + 1) 53 [.str p, .str w, .int .i64 i] []) fun d T => d = .str (p ++ w ++ ByteArray.mk #[32] ++ s) := by
      have m2 := mx_of (a := p) (b := w) (by omega)
      have m3 := mx_of (a := p ++ w) (b := ByteArray.mk #[32]) (by rw [ba_len]; omega)
      have m4 := mx_of (a := p ++ w ++ ByteArray.mk #[32]) (b := s) (by rw [ba_len, ba_len]; omega)
      refine wo_dcall Tryz.func53 rfl (by decide) rfl 18 rfl (fun a hal ha => ?_)
      have h0 : a[0]? = some (.str p) := ha 0 (by simp)
      have h1 : a[1]? = some (.str w) := ha 1 (by simp)
      have h2 : a[2]? = some (.int .i64 i) := ha 2 (by simp)
      clear ha
      have hq : (p.toList == (ByteArray.mk #[]).toList) = true := by rw [hp', str_eq]; rfl
      simp (maxSteps := 1000000) (disch := omega) only [push_cast, ↓wc_seq, ↓wc_condL, ↓wc_region, ↓wr_cons, ↓wr_nil, ↓wo_callf, ↓wc_ret, ↓wc_skip, wo_some, opQ_eq, seqQ_normal, retQ_ret, pickC_false, Nat.reduceAdd, Nat.reduceMul, Nat.reduceLT, Nat.reduceEqDiff, ↓reduceIte, planIds, hasExt, cntFs, idxFs, clnFs, ovlFs, List.contains_cons, List.contains_nil, List.any_cons, List.any_nil, Nat.reduceBEq, setC, List.length_set, reduceCtorEq, eq_self, Nat.zero_add, gt_iff_lt, hal, h0, h1, h2, cd, hq, dStr, m2, m3, m4, Bool.not_true, Tryz.f53]
    obtain ⟨d, T, ho, rfl⟩ := this
    exact fun st S => callD_pure rfl rfl ho rfl
  · refine ⟨p ++ ByteArray.mk #[32] ++ w ++ ByteArray.mk #[32] ++ s, by rw [ba_len, ba_len, ba_len, ba_len]; omega, ?_⟩
    have : WO (dcall E (m + 1) 53 [.str p, .str w, .int .i64 i] []) fun d T => d = .str (p ++ ByteArray.mk #[32] ++ w ++ ByteArray.mk #[32] ++ s) := by
      have m1 := mx_of (a := p) (b := ByteArray.mk #[32]) (by omega)
      have m2 := mx_of (a := p ++ ByteArray.mk #[32]) (b := w) (by rw [ba_len]; omega)
      have m3 := mx_of (a := p ++ ByteArray.mk #[32] ++ w) (b := ByteArray.mk #[32]) (by rw [ba_len, ba_len]; omega)
      have m4 := mx_of (a := p ++ ByteArray.mk #[32] ++ w ++ ByteArray.mk #[32]) (b := s) (by rw [ba_len, ba_len, ba_len]; omega)
      refine wo_dcall Tryz.func53 rfl (by decide) rfl 18 rfl (fun a hal ha => ?_)
      have h0 : a[0]? = some (.str p) := ha 0 (by simp)
      have h1 : a[1]? = some (.str w) := ha 1 (by simp)
      have h2 : a[2]? = some (.int .i64 i) := ha 2 (by simp)
      clear ha
      simp (maxSteps := 1000000) (disch := omega) only [push_cast, ↓wc_seq, ↓wc_condL, ↓wc_region, ↓wr_cons, ↓wr_nil, ↓wo_callf, ↓wc_ret, wo_some, opQ_eq, seqQ_normal, retQ_ret, pickC_true, Nat.reduceAdd, Nat.reduceMul, Nat.reduceLT, Nat.reduceEqDiff, ↓reduceIte, planIds, hasExt, cntFs, idxFs, clnFs, ovlFs, List.contains_cons, List.contains_nil, List.any_cons, List.any_nil, Nat.reduceBEq, setC, List.length_set, reduceCtorEq, eq_self, Nat.zero_add, gt_iff_lt, hal, h0, h1, h2, cd, str_eq, hne, m1, m2, m3, m4, Tryz.f53]
    obtain ⟨d, T, ho, rfl⟩ := this
    exact fun st S => callD_pure rfl rfl ho rfl
/-! ### Classes that occur before: one answer or the other -/
set_option maxHeartbeats 4000000 in
set_option maxRecDepth 100000 in
theorem occW {n k j : Nat} {c : Cfg} {y : Cab} {z : Cls} (hn : 2000000 ≤ n) (hc : CfgB c) (hy : c.cabs[k]? = some y) (hz : y.cls[j]? = some z) : ∃ b, ∀ st S, callD E (dcall E n) st S 134 [.agg c.enc, .int .i64 k, .int .i64 j] = some (.bool b, S) := by
  obtain ⟨m, rfl⟩ : ∃ m, n = m + 1 := ⟨n - 1, by omega⟩
  have hl := hc.cabs
  have hkl : k < c.cabs.length := lt_of_get hy
  have hjl : j < y.cls.length := lt_of_get hz
  have hyl := hc.cls y (List.mem_of_getElem? hy)
  have : WO (dcall E (m + 1) 134 [.agg c.enc, .int .i64 k, .int .i64 j] []) fun d T => ∃ b, d = .bool b := by
    refine wo_dcall Tryz.func134 rfl (by decide) rfl 54 rfl (fun a hal ha => ?_)
    have h0 : a[0]? = some (.agg c.enc) := ha 0 (by simp)
    have h1 : a[1]? = some (.int .i64 k) := ha 1 (by simp)
    have h2 : a[2]? = some (.int .i64 j) := ha 2 (by simp)
    clear ha
    simp only [Cfg.enc] at h0
    simp (maxSteps := 1000000) (disch := omega) only [push_cast, ↓wc_seq, ↓wc_block, ↓wc_region, ↓wr_cons, ↓wr_nil, ↓wc_wl, wo_some, opQ_eq, seqQ_normal, Nat.reduceAdd, Nat.reduceMul, ↓reduceIte, planIds, List.contains_cons, List.contains_nil, Nat.reduceBEq, eq_self, Nat.zero_add, h0]
    refine wl_loop (fun i a T => T = [Ob.row 2 [[.str c.equip, .sl 4 (c.cabs.map Cab.enc) c.cabsx]]] ∧ a.length = 54 ∧ a[1]? = some (.int .i64 k) ∧ a[2]? = some (.int .i64 j) ∧ a[3]? = some (.loc 0 0 0) ∧ a[7]? = some (.int .i64 i)) k ?_ (by omega) ?_
    · simp (maxSteps := 1000000) (disch := omega) only [push_cast, Nat.reduceLT, Nat.reduceEqDiff, ↓reduceIte, setC, List.length_set, eq_self, hal, h1, h2, Int.natCast_zero]
    clear hal h0 h1 h2 a
    rintro i a T hi ⟨rfl, hal, h1, h2, h3, h7⟩
    have hil : (i : Int) ≤ k := by omega
    obtain ⟨y', hy'⟩ : ∃ y', c.cabs[i]? = some y' := ⟨c.cabs[i]'(by omega), by simp⟩
    have hly := hc.cls y' (List.mem_of_getElem? hy')
    simp (maxSteps := 1000000) (disch := omega) only [push_cast, ↓wc_seq, ↓wc_block, ↓wc_condL, ↓wc_region, ↓wr_cons, ↓wr_nil, ↓wc_skip, ↓wc_wl, wo_some, opQ_eq, seqQ_normal, pickC_true, Nat.reduceAdd, Nat.reduceMul, Nat.reduceLT, Nat.reduceEqDiff, ↓reduceIte, planIds, List.contains_cons, List.contains_nil, Nat.reduceBEq, setC, List.length_set, eq_self, Nat.zero_add, hal, h1, h7, hil]
    refine wl_loop (fun w a T => (T = [Ob.row 2 [[.str c.equip, .sl 4 (c.cabs.map Cab.enc) c.cabsx]]] ∧ (i = k → w ≤ j)) ∧ a.length = 54 ∧ a[1]? = some (.int .i64 k) ∧ a[2]? = some (.int .i64 j) ∧ a[3]? = some (.loc 0 0 0) ∧ a[7]? = some (.int .i64 i) ∧ a[8]? = some (.int .i64 w)) y'.cls.length ?_ (by omega) ?_
    · simp (maxSteps := 1000000) (disch := omega) only [push_cast, Nat.reduceLT, Nat.reduceEqDiff, ↓reduceIte, setC, List.length_set, eq_self, hal, h1, h2, h3, h7, Int.natCast_zero, Nat.zero_le]
      exact fun _ => trivial
    clear hal h1 h2 h3 h7 a
    rintro w a T hw ⟨⟨rfl, hwj⟩, hal, h1, h2, h3, h7, h8⟩
    by_cases hik : i = k
    · subst hik
      rw [hy] at hy'
      cases hy'
      have hwj := hwj rfl
      have hwl : w < y.cls.length := by omega
      by_cases hwe : w = j
      · subst hwe
        simp (maxSteps := 1000000) (disch := omega) only [push_cast, ↓wc_seq, ↓wc_block, ↓wc_condL, ↓wc_region, ↓wr_cons, ↓wr_consgL, ↓wr_nil, ↓wo_pickL, ↓wc_ret, ↓wc_skip, wo_some, opQ_eq, seqQ_normal, seqQ_ret, blockQ_ret, iterQ_ret, retQ_ret, pickC_true, pickO_true, gstep_tt, int_beq, Nat.reduceAdd, Nat.reduceMul, Nat.reduceLT, Nat.reduceEqDiff, ↓reduceIte, planIds, List.contains_cons, List.contains_nil, Nat.reduceBEq, setC, List.length_set, forall_const, eq_self, Int.natCast_nonneg, Int.toNat_natCast, Int.ofNat_lt, Nat.zero_add, hal, h1, h2, h3, h7, h8, hwl, hy, List.length_map, List.getElem?_map, Cab.enc, Tryz.f134]
        exact ⟨_, rfl⟩
      · have hwe' : ¬ (w : Int) = j := by omega
        obtain ⟨z', hz'⟩ : ∃ z', y.cls[w]? = some z' := ⟨y.cls[w]'(by omega), by simp⟩
        by_cases q : z'.code = z.code
        · simp (maxSteps := 1000000) (disch := omega) only [push_cast, ↓wc_seq, ↓wc_block, ↓wc_condL, ↓wc_region, ↓wr_cons, ↓wr_consgL, ↓wr_nil, ↓wo_pickL, ↓wc_ret, ↓wc_skip, wo_some, opQ_eq, seqQ_normal, seqQ_ret, blockQ_ret, iterQ_ret, retQ_ret, pickC_true, pickC_false, pickO_true, gstep_tt, int_beq, Nat.reduceAdd, Nat.reduceMul, Nat.reduceLT, Nat.reduceEqDiff, ↓reduceIte, planIds, List.contains_cons, List.contains_nil, Nat.reduceBEq, setC, List.length_set, forall_const, eq_self, Int.natCast_nonneg, Int.toNat_natCast, Int.ofNat_lt, Nat.zero_add, Nat.add_zero, hal, h1, h2, h3, h7, h8, hwl, hwe', hy, hz, hz', q, str_eq, List.length_map, List.getElem?_map, Cab.enc, Cls.enc, Tryz.f134]
          exact ⟨_, rfl⟩
        · simp (maxSteps := 1000000) (disch := omega) only [push_cast, ↓wc_seq, ↓wc_block, ↓wc_condL, ↓wc_region, ↓wr_cons, ↓wr_consgL, ↓wr_nil, ↓wo_pickL, ↓wc_skip, wo_some, opQ_eq, seqQ_normal, blockQ_normal, iterQ_normal, pickC_true, pickC_false, pickO_true, gstep_tt, int_beq, Nat.reduceAdd, Nat.reduceMul, Nat.reduceLT, Nat.reduceEqDiff, ↓reduceIte, planIds, List.contains_cons, List.contains_nil, Nat.reduceBEq, setC, List.length_set, forall_const, eq_self, Int.natCast_nonneg, Int.toNat_natCast, Int.ofNat_lt, Nat.zero_add, Nat.add_zero, hal, h1, h2, h3, h7, h8, hwl, hwe', hy, hz, hz', q, str_eq, List.length_map, List.getElem?_map, Cab.enc, Cls.enc, wrap_ok, Int.natCast_add, Int.natCast_one]
          omega
    · have hik' : ¬ (i : Int) = k := by omega
      have hik2 : i < k := by omega
      rcases Nat.lt_or_eq_of_le hw with hwl | rfl
      case inr =>
        simp (maxSteps := 1000000) (disch := omega) only [push_cast, ↓wc_seq, ↓wc_condL, ↓wc_region, ↓wr_cons, ↓wr_nil, ↓wc_exit, wo_some, opQ_eq, seqQ_normal, seqQ_exit, blockQ_normal, blockQ_exit, iterQ_normal, iterQ_exit, pickC_false, Nat.reduceAdd, Nat.reduceMul, Nat.reduceLT, Nat.reduceEqDiff, ↓reduceIte, planIds, List.contains_cons, List.contains_nil, Nat.reduceBEq, setC, List.length_set, eq_self, Int.natCast_nonneg, Int.toNat_natCast, Int.ofNat_lt, Nat.zero_add, hal, h1, h2, h3, h7, h8, Nat.lt_irrefl, hik2, hy', List.length_map, List.getElem?_map, Cab.enc, wrap_ok, Int.natCast_add, Int.natCast_one]
      obtain ⟨z', hz'⟩ : ∃ z', y'.cls[w]? = some z' := ⟨y'.cls[w]'(by omega), by simp⟩
      by_cases q : z'.code = z.code
      · simp (maxSteps := 1000000) (disch := omega) only [push_cast, ↓wc_seq, ↓wc_block, ↓wc_condL, ↓wc_region, ↓wr_cons, ↓wr_consgL, ↓wr_nil, ↓wo_pickL, ↓wc_ret, ↓wc_skip, wo_some, opQ_eq, seqQ_normal, seqQ_ret, blockQ_ret, iterQ_ret, retQ_ret, pickC_true, pickC_false, pickO_false, gstep_ft, int_beq, Nat.reduceAdd, Nat.reduceMul, Nat.reduceLT, Nat.reduceEqDiff, ↓reduceIte, planIds, List.contains_cons, List.contains_nil, Nat.reduceBEq, setC, List.length_set, eq_self, Int.natCast_nonneg, Int.toNat_natCast, Int.ofNat_lt, Nat.zero_add, Nat.add_zero, hal, h1, h2, h3, h7, h8, hwl, hik', hy, hy', hz, hz', q, str_eq, List.length_map, List.getElem?_map, Cab.enc, Cls.enc, Tryz.f134]
        exact ⟨_, rfl⟩
      · simp (maxSteps := 1000000) (disch := omega) only [push_cast, ↓wc_seq, ↓wc_block, ↓wc_condL, ↓wc_region, ↓wr_cons, ↓wr_consgL, ↓wr_nil, ↓wo_pickL, ↓wc_skip, wo_some, opQ_eq, seqQ_normal, blockQ_normal, iterQ_normal, pickC_true, pickC_false, pickO_false, gstep_ft, int_beq, Nat.reduceAdd, Nat.reduceMul, Nat.reduceLT, Nat.reduceEqDiff, ↓reduceIte, planIds, List.contains_cons, List.contains_nil, Nat.reduceBEq, setC, List.length_set, eq_self, Int.natCast_nonneg, Int.toNat_natCast, Int.ofNat_lt, Nat.zero_add, Nat.add_zero, hal, h1, h2, h3, h7, h8, hwl, hik', hy, hy', hz, hz', q, str_eq, List.length_map, List.getElem?_map, Cab.enc, Cls.enc, wrap_ok, Int.natCast_add, Int.natCast_one]
        exact fun h => absurd h hik
  obtain ⟨d, T, ho, b, rfl⟩ := this
  exact ⟨b, fun st S => callD_pure rfl (by simp [pureL_cons, pureL_nil, D.pure, Cfg_pure]) ho rfl⟩
theorem rAuthW {n : Nat} (hn : 1 ≤ n) (y : Cab) : ∃ v, ∀ st S, callD E (dcall E n) st S 135 [.agg y.enc] = some (.int .i64 v, S) := by
  obtain ⟨m, rfl⟩ : ∃ m, n = m + 1 := ⟨n - 1, by omega⟩
  have : WO (dcall E (m + 1) 135 [.agg y.enc] []) fun d T => d = .int .i64 (IntKind.i64.wrap (y.seats + y.over)) := by
    refine wo_dcall Tryz.func135 rfl (by decide) rfl 8 rfl (fun a hal ha => ?_)
    have h0 : a[0]? = some (.agg y.enc) := ha 0 (by simp)
    clear ha
    simp only [Cab.enc] at h0
    simp (maxSteps := 1000000) (disch := omega) only [push_cast, ↓wc_seq, ↓wc_region, ↓wr_cons, ↓wr_nil, ↓wc_ret, wo_some, opQ_eq, seqQ_normal, retQ_ret, Nat.reduceAdd, Nat.reduceMul, Nat.reduceLT, Nat.reduceEqDiff, ↓reduceIte, planIds, List.contains_cons, List.contains_nil, Nat.reduceBEq, setC, List.length_set, eq_self, Nat.zero_add, hal, h0, Tryz.f135]
  obtain ⟨d, T, ho, rfl⟩ := this
  exact ⟨_, fun st S => callD_pure rfl (by simp [pureL_cons, pureL_nil, D.pure, Cab_pure]) ho rfl⟩
end Wb
end Go.Proofs.YthkbiiammhekfaaGreatDoor.Dm
