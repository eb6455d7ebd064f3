/-
  The machine at the predicates of texts: the program's and the reference's.
  The machine at codes: the program's and the reference's say the same.
-/
import Derived.Test.YthkbiiammhekfaaGreatDoorWq
set_option linter.unusedSimpArgs false
set_option linter.unusedVariables false
namespace Go.Proofs.YthkbiiammhekfaaGreatDoor.Dm
open Go
set_option linter.unusedSimpArgs false

def callV (E : Env) (call : Call) (dr : Bool) (S : List Ob) (d : D) (l : List D) : Option (D × List Ob) :=
  match d with
  | .func g first cap => if dr && !(decide (E.mode g = .pure) || decide (E.mode g = .obs)) then none else callD E call dr S g (first ++ l ++ cap)
  | _ => none
theorem wo_callv {E : Env} {call : Call} {dr : Bool} {ev : Operand → D} {S : List Ob} {t : Tmp} {args : Array Operand} {tys : Array TypeId} {Q : D → List Ob → Prop} :
    WO (dOp E call dr ev S (.call { callee := .value (.tmp t), args := args, argTypes := tys })) Q = WO (callV E call dr S (ev (.tmp t)) (args.toList.map ev)) Q := rfl
theorem callV_func {E : Env} {call : Call} {S : List Ob} {g : FuncId} {x y l : List D} : callV E call false S (.func g x y) l = callD E call false S g (x ++ l ++ y) := by
  simp [callV]
theorem byte_at' {s : ByteArray} {i : Nat} (h : i < s.size) : ∃ b, s[i]? = some b := ⟨s[i], by simp [h]⟩
def capB (b : UInt8) : Bool := decide (65 ≤ b.toNat) && decide (b.toNat ≤ 90)
def digB (b : UInt8) : Bool := decide (48 ≤ b.toNat) && decide (b.toNat ≤ 57)
def cdB (b : UInt8) : Bool := capB b || digB b
def evr (p : UInt8 → Bool) (s : ByteArray) : Nat → Bool
  | 0 => true
  | i + 1 => evr p s i && p ((s[i]?).getD 0)
theorem evr_mono {p : UInt8 → Bool} {s : ByteArray} {i j : Nat} (h : evr p s i = false) (hij : i ≤ j) : evr p s j = false := by
  induction j with
  | zero => have : i = 0 := by omega
            subst this; exact h
  | succ j ih =>
    rcases Nat.lt_or_eq_of_le hij with hlt | rfl
    · rw [evr, ih (by omega)]; rfl
    · exact h
theorem evr_no {p : UInt8 → Bool} {s : ByteArray} {i : Nat} {b : UInt8} (hi : i < s.size) (hb : s[i]? = some b) (hp : p b = false) : evr p s s.size = false :=
  evr_mono (i := i + 1) (by rw [evr, hb, Option.getD_some, hp, Bool.and_false]) hi
set_option maxRecDepth 100000 in
theorem upper_d {n : Nat} {b : UInt8} {S : List Ob} : WO (dcall E (n + 1) 95 [.int .u8 b.toNat] S) fun d T => d = .bool (capB b) ∧ T = S := by
  refine wo_dcall Tryz.func95 rfl (by decide) rfl 9 rfl (fun a hal ha => ?_)
  have h0 : a[0]? = some (.int .u8 b.toNat) := ha 0 (by simp)
  clear ha
  unfold capB
  by_cases h1 : 65 ≤ b.toNat
  · have h1' : (65 : Int) ≤ (b.toNat : Int) := by omega
    by_cases h2 : b.toNat ≤ 90
    · have h2' : (b.toNat : Int) ≤ 90 := by omega
      simp (maxSteps := 1000000) (disch := omega) only [push_cast, ↓wc_seq, ↓wc_region, ↓wr_cons, ↓wr_consgL, ↓wr_nil, ↓wo_pickL, ↓wc_ret, wo_some, opQ_eq, seqQ_normal, retQ_ret, pickO_true, gstep_tt, Nat.reduceAdd, Nat.reduceMul, Nat.reduceLT, Nat.reduceEqDiff, ↓reduceIte, planIds, List.contains_cons, List.contains_nil, Nat.reduceBEq, setC, List.length_set, reduceCtorEq, eq_self, Nat.zero_add, hal, h0, h1, h1', h2, h2', decide_true, Bool.and_true, Tryz.f95]
    · have h2' : ¬ (b.toNat : Int) ≤ 90 := by omega
      simp (maxSteps := 1000000) (disch := omega) only [push_cast, ↓wc_seq, ↓wc_region, ↓wr_cons, ↓wr_consgL, ↓wr_nil, ↓wo_pickL, ↓wc_ret, wo_some, opQ_eq, seqQ_normal, retQ_ret, pickO_true, gstep_tt, Nat.reduceAdd, Nat.reduceMul, Nat.reduceLT, Nat.reduceEqDiff, ↓reduceIte, planIds, List.contains_cons, List.contains_nil, Nat.reduceBEq, setC, List.length_set, reduceCtorEq, eq_self, Nat.zero_add, hal, h0, h1, h1', h2, h2', decide_true, decide_false, Bool.and_false, Tryz.f95]
  · have h1' : ¬ (65 : Int) ≤ (b.toNat : Int) := by omega
    simp (maxSteps := 1000000) (disch := omega) only [push_cast, ↓wc_seq, ↓wc_region, ↓wr_cons, ↓wr_consgL, ↓wr_nil, ↓wo_pickL, ↓wc_ret, wo_some, opQ_eq, seqQ_normal, retQ_ret, pickO_false, gstep_ft, Nat.reduceAdd, Nat.reduceMul, Nat.reduceLT, Nat.reduceEqDiff, ↓reduceIte, planIds, List.contains_cons, List.contains_nil, Nat.reduceBEq, setC, List.length_set, reduceCtorEq, eq_self, Nat.zero_add, hal, h0, h1, h1', decide_false, Bool.false_and, Tryz.f95]
theorem upper_c {n : Nat} (hn : 1 ≤ n) (b : UInt8) (st : Bool) (S : List Ob) : callD E (dcall E n) st S 95 [.int .u8 b.toNat] = some (.bool (capB b), S) := by
  obtain ⟨m, rfl⟩ : ∃ m, n = m + 1 := ⟨n - 1, by omega⟩
  exact callD_pure rfl rfl (eq_of_wo upper_d) rfl
set_option maxRecDepth 100000 in
theorem ref_digit_d {n : Nat} {b : UInt8} {S : List Ob} : WO (dcall E (n + 1) 96 [.int .u8 b.toNat] S) fun d T => d = .bool (digB b) ∧ T = S := by
  refine wo_dcall Tryz.func96 rfl (by decide) rfl 9 rfl (fun a hal ha => ?_)
  have h0 : a[0]? = some (.int .u8 b.toNat) := ha 0 (by simp)
  clear ha
  unfold digB
  by_cases h1 : 48 ≤ b.toNat
  · have h1' : (48 : Int) ≤ (b.toNat : Int) := by omega
    by_cases h2 : b.toNat ≤ 57
    · have h2' : (b.toNat : Int) ≤ 57 := by omega
      simp (maxSteps := 1000000) (disch := omega) only [push_cast, ↓wc_seq, ↓wc_region, ↓wr_cons, ↓wr_consgL, ↓wr_nil, ↓wo_pickL, ↓wc_ret, wo_some, opQ_eq, seqQ_normal, retQ_ret, pickO_true, gstep_tt, Nat.reduceAdd, Nat.reduceMul, Nat.reduceLT, Nat.reduceEqDiff, ↓reduceIte, planIds, List.contains_cons, List.contains_nil, Nat.reduceBEq, setC, List.length_set, reduceCtorEq, eq_self, Nat.zero_add, hal, h0, h1, h1', h2, h2', decide_true, Bool.and_true, Tryz.f96]
    · have h2' : ¬ (b.toNat : Int) ≤ 57 := by omega
      simp (maxSteps := 1000000) (disch := omega) only [push_cast, ↓wc_seq, ↓wc_region, ↓wr_cons, ↓wr_consgL, ↓wr_nil, ↓wo_pickL, ↓wc_ret, wo_some, opQ_eq, seqQ_normal, retQ_ret, pickO_true, gstep_tt, Nat.reduceAdd, Nat.reduceMul, Nat.reduceLT, Nat.reduceEqDiff, ↓reduceIte, planIds, List.contains_cons, List.contains_nil, Nat.reduceBEq, setC, List.length_set, reduceCtorEq, eq_self, Nat.zero_add, hal, h0, h1, h1', h2, h2', decide_true, decide_false, Bool.and_false, Tryz.f96]
  · have h1' : ¬ (48 : Int) ≤ (b.toNat : Int) := by omega
    simp (maxSteps := 1000000) (disch := omega) only [push_cast, ↓wc_seq, ↓wc_region, ↓wr_cons, ↓wr_consgL, ↓wr_nil, ↓wo_pickL, ↓wc_ret, wo_some, opQ_eq, seqQ_normal, retQ_ret, pickO_false, gstep_ft, Nat.reduceAdd, Nat.reduceMul, Nat.reduceLT, Nat.reduceEqDiff, ↓reduceIte, planIds, List.contains_cons, List.contains_nil, Nat.reduceBEq, setC, List.length_set, reduceCtorEq, eq_self, Nat.zero_add, hal, h0, h1, h1', decide_false, Bool.false_and, Tryz.f96]
theorem ref_digit_c {n : Nat} (hn : 1 ≤ n) (b : UInt8) (st : Bool) (S : List Ob) : callD E (dcall E n) st S 96 [.int .u8 b.toNat] = some (.bool (digB b), S) := by
  obtain ⟨m, rfl⟩ : ∃ m, n = m + 1 := ⟨n - 1, by omega⟩
  exact callD_pure rfl rfl (eq_of_wo ref_digit_d) rfl
/-- A text of least to most capital letters and digits. -/
def codeS (s : ByteArray) (least most : Int) : Bool := decide (least ≤ s.size) && decide ((s.size : Int) ≤ most) && evr cdB s s.size
set_option maxHeartbeats 800000 in
set_option maxRecDepth 100000 in
theorem ref_Code_d {n : Nat} {s : ByteArray} {l m : Int} {S : List Ob} (hn : s.size + 3 < n) (hz : s.size ≤ 9223372036854775807) :
    WO (dcall E (n + 1) 54 [.str s, .int .i64 l, .int .i64 m] S) fun d T => d = .bool (codeS s l m) ∧ T = S := by
  have c3 := upper_c (n := n) (by omega)
  have c4 := ref_digit_c (n := n) (by omega)
  refine wo_dcall Tryz.func54 rfl (by decide) rfl 36 rfl (fun a hal ha => ?_)
  have h0 : a[0]? = some (.str s) := ha 0 (by simp)
  have h1 : a[1]? = some (.int .i64 l) := ha 1 (by simp)
  have h2 : a[2]? = some (.int .i64 m) := ha 2 (by simp)
  clear ha
  simp (maxSteps := 1000000) (disch := omega) only [push_cast, ↓wc_seq, ↓wc_block, ↓wc_region, ↓wr_cons, ↓wr_nil, ↓wc_wl, wo_some, opQ_eq, seqQ_normal, Nat.reduceAdd, Nat.reduceMul, ↓reduceIte, planIds, List.contains_cons, List.contains_nil, Nat.reduceBEq, Nat.zero_add]
  refine wl_loop (fun i a T => T = S ∧ a.length = 36 ∧ a[0]? = some (.str s) ∧ a[1]? = some (.int .i64 l) ∧ a[2]? = some (.int .i64 m) ∧ a[7]? = some (.int .i64 i) ∧ evr cdB s i = true) s.size ?_ (by omega) ?_
  · simp (maxSteps := 1000000) (disch := omega) only [push_cast, Nat.reduceLT, Nat.reduceEqDiff, ↓reduceIte, setC, List.length_set, reduceCtorEq, eq_self, hal, h0, h1, h2, evr, Int.natCast_zero]
  · rintro i a T hi ⟨rfl, hal, h0, h1, h2, h7, hv⟩
    rcases Nat.lt_or_eq_of_le hi with hlt | rfl
    · obtain ⟨b, hb⟩ := byte_at' hlt
      cases hp : capB b
      · cases hq : digB b
        · simp (maxSteps := 1000000) (disch := omega) only [push_cast, ↓wc_seq, ↓wc_block, ↓wc_condL, ↓wc_region, ↓wr_cons, ↓wr_consgL, ↓wr_nil, ↓wo_pickL, ↓wo_callf, ↓wc_ret, ↓wc_skip, wo_some, opQ_eq, seqQ_normal, seqQ_ret, blockQ_ret, iterQ_ret, retQ_ret, pickC_true, pickO_true, gstep_tt, Nat.reduceAdd, Nat.reduceMul, Nat.reduceLT, Nat.reduceEqDiff, ↓reduceIte, planIds, hasExt, cntFs, idxFs, clnFs, ovlFs, List.contains_cons, List.contains_nil, List.any_cons, List.any_nil, Nat.reduceBEq, setC, List.length_set, reduceCtorEq, eq_self, Int.natCast_nonneg, Int.toNat_natCast, Int.ofNat_lt, Nat.zero_add, hal, h0, h7, hlt, hb, c3, c4, hp, hq, dUn, Tryz.f54]
          unfold codeS
          rw [evr_no hlt hb (by unfold cdB; rw [hp, hq]; rfl), Bool.and_false]
        · have hcd : cdB b = true := by unfold cdB; rw [hp, hq]; rfl
          simp (maxSteps := 1000000) (disch := omega) only [push_cast, ↓wc_seq, ↓wc_block, ↓wc_condL, ↓wc_region, ↓wr_cons, ↓wr_consgL, ↓wr_nil, ↓wo_pickL, ↓wo_callf, ↓wc_skip, wo_some, opQ_eq, seqQ_normal, blockQ_normal, iterQ_normal, pickC_true, pickC_false, pickO_true, gstep_tt, Nat.reduceAdd, Nat.reduceMul, Nat.reduceLT, Nat.reduceEqDiff, ↓reduceIte, planIds, hasExt, cntFs, idxFs, clnFs, ovlFs, List.contains_cons, List.contains_nil, List.any_cons, List.any_nil, Nat.reduceBEq, setC, List.length_set, reduceCtorEq, eq_self, Int.natCast_nonneg, Int.toNat_natCast, Int.ofNat_lt, Nat.zero_add, hal, h0, h1, h2, h7, hlt, hb, c3, c4, hp, hq, dUn, wrap_ok, evr, hv, hcd, Int.natCast_add, Int.natCast_one]
      · have hcd : cdB b = true := by unfold cdB; rw [hp]; rfl
        simp (maxSteps := 1000000) (disch := omega) only [push_cast, ↓wc_seq, ↓wc_block, ↓wc_condL, ↓wc_region, ↓wr_cons, ↓wr_consgL, ↓wr_nil, ↓wo_pickL, ↓wo_callf, ↓wc_skip, wo_some, opQ_eq, seqQ_normal, blockQ_normal, iterQ_normal, pickC_true, pickC_false, pickO_false, gstep_ft, Nat.reduceAdd, Nat.reduceMul, Nat.reduceLT, Nat.reduceEqDiff, ↓reduceIte, planIds, hasExt, cntFs, idxFs, clnFs, ovlFs, List.contains_cons, List.contains_nil, List.any_cons, List.any_nil, Nat.reduceBEq, setC, List.length_set, reduceCtorEq, eq_self, Int.natCast_nonneg, Int.toNat_natCast, Int.ofNat_lt, Nat.zero_add, hal, h0, h1, h2, h7, hlt, hb, c3, hp, dUn, wrap_ok, evr, hv, hcd, Int.natCast_add, Int.natCast_one]
    · unfold codeS
      by_cases c1 : l ≤ s.size
      · by_cases c2 : (s.size : Int) ≤ m
        · simp (maxSteps := 1000000) (disch := omega) only [push_cast, ↓wc_seq, ↓wc_condL, ↓wc_region, ↓wr_cons, ↓wr_consgL, ↓wr_nil, ↓wo_pickL, ↓wc_exit, ↓wc_ret, wo_some, opQ_eq, seqQ_normal, seqQ_exit, blockQ_exit, iterQ_exit, retQ_ret, pickC_false, pickO_true, gstep_tt, Nat.reduceAdd, Nat.reduceMul, Nat.reduceLT, Nat.reduceEqDiff, ↓reduceIte, planIds, List.contains_cons, List.contains_nil, Nat.reduceBEq, setC, List.length_set, reduceCtorEq, eq_self, Int.ofNat_lt, Nat.zero_add, hal, h0, h1, h2, h7, c1, c2, hv, Nat.lt_irrefl, decide_true, Bool.true_and, Tryz.f54]
        · simp (maxSteps := 1000000) (disch := omega) only [push_cast, ↓wc_seq, ↓wc_condL, ↓wc_region, ↓wr_cons, ↓wr_consgL, ↓wr_nil, ↓wo_pickL, ↓wc_exit, ↓wc_ret, wo_some, opQ_eq, seqQ_normal, seqQ_exit, blockQ_exit, iterQ_exit, retQ_ret, pickC_false, pickO_true, gstep_tt, Nat.reduceAdd, Nat.reduceMul, Nat.reduceLT, Nat.reduceEqDiff, ↓reduceIte, planIds, List.contains_cons, List.contains_nil, Nat.reduceBEq, setC, List.length_set, reduceCtorEq, eq_self, Int.ofNat_lt, Nat.zero_add, hal, h0, h1, h2, h7, c1, c2, hv, Nat.lt_irrefl, decide_true, decide_false, Bool.true_and, Bool.false_and, Tryz.f54]
      · simp (maxSteps := 1000000) (disch := omega) only [push_cast, ↓wc_seq, ↓wc_condL, ↓wc_region, ↓wr_cons, ↓wr_consgL, ↓wr_nil, ↓wo_pickL, ↓wc_exit, ↓wc_ret, wo_some, opQ_eq, seqQ_normal, seqQ_exit, blockQ_exit, iterQ_exit, retQ_ret, pickC_false, pickO_false, gstep_ft, Nat.reduceAdd, Nat.reduceMul, Nat.reduceLT, Nat.reduceEqDiff, ↓reduceIte, planIds, List.contains_cons, List.contains_nil, Nat.reduceBEq, setC, List.length_set, reduceCtorEq, eq_self, Int.ofNat_lt, Nat.zero_add, hal, h0, h1, h7, c1, hv, Nat.lt_irrefl, decide_false, Bool.false_and, Tryz.f54]
/-- A text of so many capital letters. -/
def lettS (s : ByteArray) (k : Nat) : Bool := decide (s.size = k) && evr capB s s.size
set_option maxHeartbeats 800000 in
set_option maxRecDepth 100000 in
theorem letters_d {n k : Nat} {s : ByteArray} {S : List Ob} (hn : s.size + 3 < n) (hz : s.size ≤ 9223372036854775807) :
    WO (dcall E (n + 1) 156 [.str s, .int .i64 k] S) fun d T => d = .bool (lettS s k) ∧ T = S := by
  have c3 := upper_c (n := n) (by omega)
  refine wo_dcall Tryz.func156 rfl (by decide) rfl 21 rfl (fun a hal ha => ?_)
  have h0 : a[0]? = some (.str s) := ha 0 (by simp)
  have h1 : a[1]? = some (.int .i64 k) := ha 1 (by simp)
  clear ha
  simp (maxSteps := 1000000) (disch := omega) only [push_cast, ↓wc_seq, ↓wc_block, ↓wc_region, ↓wr_cons, ↓wr_nil, ↓wc_wl, wo_some, opQ_eq, seqQ_normal, Nat.reduceAdd, Nat.reduceMul, ↓reduceIte, planIds, List.contains_cons, List.contains_nil, Nat.reduceBEq, Nat.zero_add]
  refine wl_loop (fun i a T => T = S ∧ a.length = 21 ∧ a[0]? = some (.str s) ∧ a[1]? = some (.int .i64 k) ∧ a[5]? = some (.int .i64 i) ∧ evr capB s i = true) s.size ?_ (by omega) ?_
  · simp (maxSteps := 1000000) (disch := omega) only [push_cast, Nat.reduceLT, Nat.reduceEqDiff, ↓reduceIte, setC, List.length_set, reduceCtorEq, eq_self, hal, h0, h1, evr, Int.natCast_zero]
  · rintro i a T hi ⟨rfl, hal, h0, h1, h5, hv⟩
    rcases Nat.lt_or_eq_of_le hi with hlt | rfl
    · obtain ⟨b, hb⟩ := byte_at' hlt
      cases hp : capB b
      · simp (maxSteps := 1000000) (disch := omega) only [push_cast, ↓wc_seq, ↓wc_block, ↓wc_condL, ↓wc_region, ↓wr_cons, ↓wr_nil, ↓wo_callf, ↓wc_ret, ↓wc_skip, wo_some, opQ_eq, seqQ_normal, seqQ_ret, blockQ_ret, iterQ_ret, retQ_ret, pickC_true, Nat.reduceAdd, Nat.reduceMul, Nat.reduceLT, Nat.reduceEqDiff, ↓reduceIte, planIds, hasExt, cntFs, idxFs, clnFs, ovlFs, List.contains_cons, List.contains_nil, List.any_cons, List.any_nil, Nat.reduceBEq, setC, List.length_set, reduceCtorEq, eq_self, Int.natCast_nonneg, Int.toNat_natCast, Int.ofNat_lt, Nat.zero_add, hal, h0, h5, hlt, hb, c3, hp, dUn, Tryz.f156]
        unfold lettS
        rw [evr_no hlt hb hp, Bool.and_false]
      · simp (maxSteps := 1000000) (disch := omega) only [push_cast, ↓wc_seq, ↓wc_block, ↓wc_condL, ↓wc_region, ↓wr_cons, ↓wr_nil, ↓wo_callf, ↓wc_skip, wo_some, opQ_eq, seqQ_normal, blockQ_normal, iterQ_normal, pickC_true, pickC_false, Nat.reduceAdd, Nat.reduceMul, Nat.reduceLT, Nat.reduceEqDiff, ↓reduceIte, planIds, hasExt, cntFs, idxFs, clnFs, ovlFs, List.contains_cons, List.contains_nil, List.any_cons, List.any_nil, Nat.reduceBEq, setC, List.length_set, reduceCtorEq, eq_self, Int.natCast_nonneg, Int.toNat_natCast, Int.ofNat_lt, Nat.zero_add, hal, h0, h1, h5, hlt, hb, c3, hp, dUn, wrap_ok, evr, hv, Int.natCast_add, Int.natCast_one]
    · unfold lettS
      have hk : decide ((s.size : Int) = (k : Int)) = decide (s.size = k) := decide_eq_decide.2 (by omega)
      simp (maxSteps := 1000000) (disch := omega) only [push_cast, ↓wc_seq, ↓wc_condL, ↓wc_region, ↓wr_cons, ↓wr_nil, ↓wc_exit, ↓wc_ret, wo_some, opQ_eq, seqQ_normal, seqQ_exit, blockQ_exit, iterQ_exit, retQ_ret, pickC_false, int_beq, Nat.reduceAdd, Nat.reduceMul, Nat.reduceLT, Nat.reduceEqDiff, ↓reduceIte, planIds, List.contains_cons, List.contains_nil, Nat.reduceBEq, setC, List.length_set, reduceCtorEq, eq_self, Int.ofNat_lt, Nat.zero_add, hal, h0, h1, h5, hv, hk, Nat.lt_irrefl, Bool.and_true, Tryz.f156]
end Go.Proofs.YthkbiiammhekfaaGreatDoor.Dm
