/-
  The machine at codes of airports, countries and carriers, at decimals below 100, and at lists of violations that are compared: the program's and the reference's.
-/
import Derived.Test.YtlamgjbngblefaaGreatDoorTxE
import Derived.Test.YtlamgjbngblefaaGreatDoorGw
import Derived.Test.YtlamgjbngblefaaGreatDoorWq
namespace Go.Proofs.YtlamgjbngblefaaGreatDoor.Dm
open Go Gw
set_option linter.unusedSimpArgs false

set_option maxHeartbeats 400000 in
set_option maxRecDepth 100000 in
theorem CodeK_c {n k : Nat} (hk : k ≤ 20) (hn : 30 ≤ n) (s : ByteArray) (st : Bool) (S : List Ob) : callD E (dcall E n) st S 110 [.str s, .int .i64 k, .int .i64 k] = some (.bool (codeS s k k), S) := by
  obtain ⟨m, rfl⟩ : ∃ m, n = m + 1 := ⟨n - 1, by omega⟩
  suffices H : WO (dcall E (m + 1) 110 [.str s, .int .i64 k, .int .i64 k] []) fun d T => d = .bool (codeS s k k) ∧ T = [] from callD_pure rfl rfl (eq_of_wo H) rfl
  by_cases h : s.size ≤ 20
  · exact Code_d (by omega) (by omega)
  · refine wo_dcall Tryz.func110 rfl (by decide) rfl 21 rfl (fun a hal ha => ?_)
    have h0 : a[0]? = some (.str s) := ha 0 (by simp)
    have h1 : a[1]? = some (.int .i64 k) := ha 1 (by simp)
    have h2 : a[2]? = some (.int .i64 k) := ha 2 (by simp)
    clear ha
    unfold codeS
    have c1 : (k : Int) ≤ s.size := by omega
    have c2 : ¬ (s.size : Int) ≤ k := by omega
    simp (maxSteps := 1000000) (disch := omega) only [push_cast, ↓wc_seq, ↓wc_block, ↓wc_scope, ↓wc_condL, ↓wc_region, ↓wr_cons, ↓wr_consgL, ↓wr_nil, ↓wo_pickL, ↓wo_callf, ↓wc_exit, ↓wc_ret, ↓wc_skip, ↓wc_wl, wo_some, wo_none, wo_ite, opQ_eq, seqQ_normal, seqQ_exit, seqQ_ret, blockQ_normal, blockQ_exit, blockQ_ret, iterQ_normal, iterQ_exit, iterQ_ret, retQ_normal, retQ_ret, retQ_exit, pickC_true, pickC_false, pickO_true, pickO_false, gstep_tt, gstep_ff, gstep_tf, gstep_ft, gstep_skip, int_bne, int_beq, decide_not, Nat.reduceAdd, Nat.reduceMul, Nat.reduceSub, Nat.reducePow, Nat.reduceLT, Nat.reduceLeDiff, Nat.reduceEqDiff, Int.reduceToNat, Int.reduceAdd, Int.reduceSub, Int.reduceNeg, Int.reduceMul, Int.reduceLT, Int.reduceLE, Int.reduceEq, le_max, ↓wo_build, ↓wo_buildSlice, evParts, ↓reduceIte, planIds, hasExt, cntFs, idxFs, clnFs, ovlFs, List.contains_cons, List.contains_nil, List.any_cons, List.any_nil, Nat.reduceBEq, setC, List.length_set, decide_eq_true_eq, decide_eq_false_iff_not, true_implies, false_implies, forall_const, reduceCtorEq, eq_self, Int.natCast_nonneg, Int.toNat_natCast, Int.ofNat_lt, D.int.injEq, Option.some.injEq, Nat.zero_add, Nat.add_zero, bne_iff_ne, bne_eq_false_iff_eq, beq_iff_eq, beq_eq_false_iff_ne, gt_iff_lt, ne_eq, not_true_eq_false, not_false_eq_true, planIds, hasExt, cntFs, idxFs, clnFs, ovlFs, List.contains_cons, List.contains_nil, List.any_cons, List.any_nil, Nat.reduceBEq, Nat.reduceMul, Nat.reduceAdd, ↓reduceIte, hal, h0, h1, h2, c1, c2, ge_iff_le, decide_true, decide_false, Bool.true_and, Bool.false_and, Tryz.f110]
def carS (s : ByteArray) : Bool := codeS s 2 2 && !evr digB s s.size
theorem codeS_size {s : ByteArray} {k : Nat} (h : codeS s k k = true) : s.size = k := by
  unfold codeS at h
  simp only [Bool.and_eq_true, decide_eq_true_eq] at h
  omega
theorem cap_dig {b : UInt8} (h : cdB b = true) : digB b = !capB b := by
  unfold cdB at h
  unfold digB capB at *
  by_cases h1 : 48 ≤ b.toNat <;> by_cases h2 : b.toNat ≤ 57 <;> by_cases h3 : 65 ≤ b.toNat <;> by_cases h4 : b.toNat ≤ 90 <;> simp [h1, h2, h3, h4] at h ⊢ <;> omega
/-! Decimals of numbers below 100. -/
def dec2 (n : Nat) : ByteArray := if n < 10 then ⟨#[UInt8.ofNat (48 + n)]⟩ else ⟨#[UInt8.ofNat (48 + n / 10), UInt8.ofNat (48 + n % 10)]⟩
theorem itoa2_all : (List.range 100).all (fun n => sameS (strOf (dcall E 40 132 [.int .i64 n] [])) (some (dec2 n))) = true := by kernel_rfl
theorem itoa2_c {n : Nat} (hn : 40 ≤ n) {i : Nat} (hi : i < 100) (st : Bool) (S : List Ob) : callD E (dcall E n) st S 132 [.int .i64 i] = some (.str (dec2 i), S) := by
  obtain ⟨s, h1, h2⟩ := sameS_spec (List.all_eq_true.1 itoa2_all i (List.mem_range.2 hi))
  obtain ⟨T, e⟩ := strOf_spec h1
  rw [Option.some.inj h2]
  exact callD_up hn (callD_pure rfl rfl e rfl)
theorem rdec2_all : (List.range 100).all (fun n => sameS (strOf (dcall E 40 120 [.int .i64 n] [])) (some (dec2 n))) = true := by kernel_rfl
theorem rdec2_c {n : Nat} (hn : 40 ≤ n) {i : Nat} (hi : i < 100) (st : Bool) (S : List Ob) : callD E (dcall E n) st S 120 [.int .i64 i] = some (.str (dec2 i), S) := by
  obtain ⟨s, h1, h2⟩ := sameS_spec (List.all_eq_true.1 rdec2_all i (List.mem_range.2 hi))
  obtain ⟨T, e⟩ := strOf_spec h1
  rw [Option.some.inj h2]
  exact callD_up hn (callD_pure rfl rfl e rfl)
theorem dec2_size (n : Nat) : (dec2 n).size ≤ 2 := by
  unfold dec2; split <;> simp [ByteArray.size]

/-! Lists of violations that are equal are found equal. -/
/-- A list of violations that a call has handed back. -/
def FZ (d : D) (fs : List (Int × ByteArray)) : Prop := (d = .nils ∧ fs = []) ∨ ∃ x, d = .sl 2 (fs.map encF) x
theorem FV.fz {T : List Ob} {d : D} {fs : List (Int × ByteArray)} (h : FV T d fs) : ∃ d', freeze T 40 d = some d' ∧ FZ d' fs := by
  rcases h with ⟨rfl, rfl⟩ | ⟨x, rfl⟩ | ⟨k, rfl, hk⟩
  · exact ⟨_, rfl, .inl ⟨rfl, rfl⟩⟩
  · exact ⟨_, freeze_pure (encF_pure fs), .inr ⟨x, rfl⟩⟩
  · have := freeze_os (n := 38) (x := false) hk (encF_pure fs)
    rw [List.length_map] at this
    exact ⟨_, this, .inr ⟨_, rfl⟩⟩
theorem FZ.pure {d : D} {fs : List (Int × ByteArray)} (h : FZ d fs) : d.pure = true := by
  rcases h with ⟨rfl, -⟩ | ⟨x, rfl⟩
  · rfl
  · exact encF_pure fs
end Go.Proofs.YtlamgjbngblefaaGreatDoor.Dm
