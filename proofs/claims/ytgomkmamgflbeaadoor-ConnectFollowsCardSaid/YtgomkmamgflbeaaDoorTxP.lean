/-
  The machine at codes of airports, countries and carriers, at decimals below 100, and at lists of violations that are compared: the program's and the reference's.
-/
import Derived.Test.YtgomkmamgflbeaaDoorTxC
import Derived.Test.YtgomkmamgflbeaaDoorGw
import Derived.Test.YtgomkmamgflbeaaDoorWs
namespace Go.Proofs.YtgomkmamgflbeaaDoor.Dm
open Go Gw
set_option linter.unusedSimpArgs false

theorem rAirport_c {n : Nat} {s : ByteArray} (hn : s.size + 5 < n) (hz : s.size ≤ 9223372036854775807) (st : Bool) (S : List Ob) : callD E (dcall E n) st S 31 [.str s] = some (.bool (lettS s 3), S) := by
  obtain ⟨m, rfl⟩ : ∃ m, n = m + 2 := ⟨n - 2, by omega⟩
  have q : ∀ st S, callD E (dcall E (m + 1)) st S 56 [.str s, .int .i64 3] = some (.bool (lettS s 3), S) := fun st S => callD_pure rfl rfl (eq_of_wo (letters_d (k := 3) (by omega) hz)) rfl
  have : WO (dcall E (m + 2) 31 [.str s] []) fun d T => d = .bool (lettS s 3) ∧ T = [] := by
    refine wo_dcall Tryd.func31 rfl (by decide) rfl 5 rfl (fun a hal ha => ?_)
    have h0 : a[0]? = some (.str s) := ha 0 (by simp)
    clear ha
    simp (maxSteps := 1000000) (disch := omega) only [push_cast, ↓wc_seq, ↓wc_block, ↓wc_scope, ↓wc_condL, ↓wc_region, ↓wr_cons, ↓wr_consgL, ↓wr_nil, ↓wo_pickL, ↓wo_callf, ↓wc_exit, ↓wc_ret, ↓wc_skip, ↓wc_wl, wo_some, wo_none, wo_ite, opQ_eq, seqQ_normal, seqQ_exit, seqQ_ret, blockQ_normal, blockQ_exit, blockQ_ret, iterQ_normal, iterQ_exit, iterQ_ret, retQ_normal, retQ_ret, retQ_exit, pickC_true, pickC_false, pickO_true, pickO_false, gstep_tt, gstep_ff, gstep_tf, gstep_ft, gstep_skip, int_bne, int_beq, decide_not, Nat.reduceAdd, Nat.reduceMul, Nat.reduceSub, Nat.reducePow, Nat.reduceLT, Nat.reduceLeDiff, Nat.reduceEqDiff, Int.reduceToNat, Int.reduceAdd, Int.reduceSub, Int.reduceNeg, Int.reduceMul, Int.reduceLT, Int.reduceLE, Int.reduceEq, le_max, ↓wo_build, ↓wo_buildSlice, evParts, ↓reduceIte, planIds, hasExt, cntFs, idxFs, clnFs, ovlFs, List.contains_cons, List.contains_nil, List.any_cons, List.any_nil, Nat.reduceBEq, setC, List.length_set, decide_eq_true_eq, decide_eq_false_iff_not, true_implies, false_implies, forall_const, reduceCtorEq, eq_self, Int.natCast_nonneg, Int.toNat_natCast, Int.ofNat_lt, D.int.injEq, Option.some.injEq, Nat.zero_add, Nat.add_zero, bne_iff_ne, bne_eq_false_iff_eq, beq_iff_eq, beq_eq_false_iff_ne, gt_iff_lt, ne_eq, not_true_eq_false, not_false_eq_true, planIds, hasExt, cntFs, idxFs, clnFs, ovlFs, List.contains_cons, List.contains_nil, List.any_cons, List.any_nil, Nat.reduceBEq, Nat.reduceMul, Nat.reduceAdd, ↓reduceIte, hal, h0, q, Tryd.f31]
  exact callD_pure rfl rfl (eq_of_wo this) rfl
theorem rCountry_c {n : Nat} {s : ByteArray} (hn : s.size + 5 < n) (hz : s.size ≤ 9223372036854775807) (st : Bool) (S : List Ob) : callD E (dcall E n) st S 59 [.str s] = some (.bool (lettS s 2), S) := by
  obtain ⟨m, rfl⟩ : ∃ m, n = m + 2 := ⟨n - 2, by omega⟩
  have q : ∀ st S, callD E (dcall E (m + 1)) st S 56 [.str s, .int .i64 2] = some (.bool (lettS s 2), S) := fun st S => callD_pure rfl rfl (eq_of_wo (letters_d (k := 2) (by omega) hz)) rfl
  have : WO (dcall E (m + 2) 59 [.str s] []) fun d T => d = .bool (lettS s 2) ∧ T = [] := by
    refine wo_dcall Tryd.func59 rfl (by decide) rfl 5 rfl (fun a hal ha => ?_)
    have h0 : a[0]? = some (.str s) := ha 0 (by simp)
    clear ha
    simp (maxSteps := 1000000) (disch := omega) only [push_cast, ↓wc_seq, ↓wc_block, ↓wc_scope, ↓wc_condL, ↓wc_region, ↓wr_cons, ↓wr_consgL, ↓wr_nil, ↓wo_pickL, ↓wo_callf, ↓wc_exit, ↓wc_ret, ↓wc_skip, ↓wc_wl, wo_some, wo_none, wo_ite, opQ_eq, seqQ_normal, seqQ_exit, seqQ_ret, blockQ_normal, blockQ_exit, blockQ_ret, iterQ_normal, iterQ_exit, iterQ_ret, retQ_normal, retQ_ret, retQ_exit, pickC_true, pickC_false, pickO_true, pickO_false, gstep_tt, gstep_ff, gstep_tf, gstep_ft, gstep_skip, int_bne, int_beq, decide_not, Nat.reduceAdd, Nat.reduceMul, Nat.reduceSub, Nat.reducePow, Nat.reduceLT, Nat.reduceLeDiff, Nat.reduceEqDiff, Int.reduceToNat, Int.reduceAdd, Int.reduceSub, Int.reduceNeg, Int.reduceMul, Int.reduceLT, Int.reduceLE, Int.reduceEq, le_max, ↓wo_build, ↓wo_buildSlice, evParts, ↓reduceIte, planIds, hasExt, cntFs, idxFs, clnFs, ovlFs, List.contains_cons, List.contains_nil, List.any_cons, List.any_nil, Nat.reduceBEq, setC, List.length_set, decide_eq_true_eq, decide_eq_false_iff_not, true_implies, false_implies, forall_const, reduceCtorEq, eq_self, Int.natCast_nonneg, Int.toNat_natCast, Int.ofNat_lt, D.int.injEq, Option.some.injEq, Nat.zero_add, Nat.add_zero, bne_iff_ne, bne_eq_false_iff_eq, beq_iff_eq, beq_eq_false_iff_ne, gt_iff_lt, ne_eq, not_true_eq_false, not_false_eq_true, planIds, hasExt, cntFs, idxFs, clnFs, ovlFs, List.contains_cons, List.contains_nil, List.any_cons, List.any_nil, Nat.reduceBEq, Nat.reduceMul, Nat.reduceAdd, ↓reduceIte, hal, h0, q, Tryd.f59]
  exact callD_pure rfl rfl (eq_of_wo this) rfl
def carS (s : ByteArray) : Bool := codeS s 2 2 && !evr digB s s.size
/-! Decimals of numbers below 100. -/
def dec2 (n : Nat) : ByteArray := if n < 10 then ⟨#[UInt8.ofNat (48 + n)]⟩ else ⟨#[UInt8.ofNat (48 + n / 10), UInt8.ofNat (48 + n % 10)]⟩
theorem rdec2_all : (List.range 100).all (fun n => sameS (strOf (dcall E 40 30 [.int .i64 n] [])) (some (dec2 n))) = true := by kernel_rfl
theorem rdec2_c {n : Nat} (hn : 40 ≤ n) {i : Nat} (hi : i < 100) (st : Bool) (S : List Ob) : callD E (dcall E n) st S 30 [.int .i64 i] = some (.str (dec2 i), S) := by
  obtain ⟨s, h1, h2⟩ := sameS_spec (List.all_eq_true.1 rdec2_all i (List.mem_range.2 hi))
  obtain ⟨T, e⟩ := strOf_spec h1
  rw [Option.some.inj h2]
  exact callD_up hn (callD_pure rfl rfl e rfl)
theorem dec2_size (n : Nat) : (dec2 n).size ≤ 2 := by
  unfold dec2; split <;> simp [ByteArray.size]

/-! Lists of violations that are equal are found equal. -/
/-- A list of violations that a call has handed back. -/
def FZ (d : D) (fs : List (Int × ByteArray)) : Prop := (d = .nils ∧ fs = []) ∨ ∃ x, d = .sl 2 (fs.map encF) x
theorem FV.fz {T : List Ob} {d : D} {fs : List (Int × ByteArray)} (h : FV T d fs) : ∃ d', freeze T 40 d = some d' ∧ FZ d' fs := by
  rcases h with ⟨rfl, rfl⟩ | ⟨x, rfl⟩ | ⟨k, rfl, hk⟩
  · exact ⟨_, rfl, .inl ⟨rfl, rfl⟩⟩
  · exact ⟨_, freeze_pure (encF_pure fs), .inr ⟨x, rfl⟩⟩
  · have := freeze_os (n := 38) (x := false) hk (encF_pure fs)
    rw [List.length_map] at this
    exact ⟨_, this, .inr ⟨_, rfl⟩⟩
theorem FZ.pure {d : D} {fs : List (Int × ByteArray)} (h : FZ d fs) : d.pure = true := by
  rcases h with ⟨rfl, -⟩ | ⟨x, rfl⟩
  · rfl
  · exact encF_pure fs
end Go.Proofs.YtgomkmamgflbeaaDoor.Dm
