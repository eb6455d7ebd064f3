/-
  The machine at the checksums of a journal: both are one number.
-/
import Derived.Test.YtgfbblpkddahbaaDoorWp
namespace Go.Proofs.YtgfbblpkddahbaaDoor.Dm
open Go
set_option linter.unusedSimpArgs false

def sumStep (h : Int) (b : UInt8) : Int := (IntKind.i64.wrap (IntKind.i64.wrap (IntKind.i64.wrap (257 * h) + IntKind.i64.wrap b.toNat) + 1)).tmod 2147483647
def sumN (h : Int) (s : ByteArray) : Nat → Int
  | 0 => h
  | i + 1 => sumStep (sumN h s i) ((s[i]?).getD 0)
def sumI (x : Int) : Int := if x.tmod 2147483647 < 0 then IntKind.i64.wrap (x.tmod 2147483647 + 2147483647) else x.tmod 2147483647
def sumR (x : Int) (s : ByteArray) : Int := (IntKind.i64.wrap (257 * sumN (sumI x) s s.size)).tmod 2147483647
theorem byte_at {s : ByteArray} {i : Nat} (h : i < s.size) : ∃ b, s[i]? = some b := ⟨s[i], by simp [h]⟩

set_option maxRecDepth 100000 in
theorem Sum_d {n : Nat} {x : Int} {s : ByteArray} {S : List Ob} (hn : s.size < n) (hz : s.size ≤ 1000) : WO (dcall E (n + 1) 95 [.int .i64 x, .str s] S) fun d T => d = .int .i64 (sumR x s) ∧ T = S := by
  refine wo_dcall Tryd.func95 rfl (by decide) rfl 31 rfl (fun a hl ha => ?_)
  have h0 : a[0]? = some (.int .i64 x) := ha 0 (by simp)
  have h1 : a[1]? = some (.str s) := ha 1 (by simp)
  clear ha
  simp (decide := true) only [push_cast, ↓wc_seq, ↓wc_block, ↓wc_scope, ↓wc_cond, ↓wc_region, ↓wr_cons, ↓wr_consg, ↓wr_nil, ↓wo_pick, ↓wo_callf, ↓wc_exit, ↓wc_ret, ↓wc_skip, ↓wc_wl, wo_some, wo_none, wo_ite, opQ_eq, seqQ_normal, seqQ_exit, seqQ_ret, blockQ_normal, blockQ_exit, blockQ_ret, iterQ_normal, iterQ_exit, iterQ_ret, retQ_normal, retQ_ret, retQ_exit, pickQ_bool, guardQ_some, guardQ_skip, setC, List.length_set, decide_eq_true_eq, decide_eq_false_iff_not, true_implies, false_implies, forall_const, reduceCtorEq, eq_self, Int.natCast_nonneg, Int.toNat_natCast, Int.ofNat_lt, D.int.injEq, Option.some.injEq, Nat.zero_add, Nat.add_zero, bne_iff_ne, bne_eq_false_iff_eq, beq_iff_eq, beq_eq_false_iff_ne, gt_iff_lt, ne_eq, not_true_eq_false, not_false_eq_true, hl, h0, h1]
  refine ⟨fun hx => ?_, fun hx => ?_⟩ <;>
  · refine wl_loop (fun i a T => T = S ∧ a.length = 31 ∧ a[1]? = some (.str s) ∧ a[5]? = some (.int .i64 (sumN (sumI x) s i)) ∧ a[14]? = some (.int .i64 s.size) ∧ a[15]? = some (.int .i64 i)) s.size ?_ hn ?_
    · simp (decide := true) only [push_cast, ↓wc_seq, ↓wc_block, ↓wc_scope, ↓wc_cond, ↓wc_region, ↓wr_cons, ↓wr_consg, ↓wr_nil, ↓wo_pick, ↓wo_callf, ↓wc_exit, ↓wc_ret, ↓wc_skip, ↓wc_wl, wo_some, wo_none, wo_ite, opQ_eq, seqQ_normal, seqQ_exit, seqQ_ret, blockQ_normal, blockQ_exit, blockQ_ret, iterQ_normal, iterQ_exit, iterQ_ret, retQ_normal, retQ_ret, retQ_exit, pickQ_bool, guardQ_some, guardQ_skip, setC, List.length_set, decide_eq_true_eq, decide_eq_false_iff_not, true_implies, false_implies, forall_const, reduceCtorEq, eq_self, Int.natCast_nonneg, Int.toNat_natCast, Int.ofNat_lt, D.int.injEq, Option.some.injEq, Nat.zero_add, Nat.add_zero, bne_iff_ne, bne_eq_false_iff_eq, beq_iff_eq, beq_eq_false_iff_ne, gt_iff_lt, ne_eq, not_true_eq_false, not_false_eq_true, hl, h0, h1, sumN, sumI, hx, Int.natCast_zero]
    · rintro i a T hi ⟨rfl, hl, h1, h5, h14, h15⟩
      rcases Nat.lt_or_eq_of_le hi with hlt | rfl
      · obtain ⟨b, hb⟩ := byte_at hlt
        simp (decide := true) (disch := omega) only [push_cast, ↓wc_seq, ↓wc_block, ↓wc_scope, ↓wc_cond, ↓wc_region, ↓wr_cons, ↓wr_consg, ↓wr_nil, ↓wo_pick, ↓wo_callf, ↓wc_exit, ↓wc_ret, ↓wc_skip, ↓wc_wl, wo_some, wo_none, wo_ite, opQ_eq, seqQ_normal, seqQ_exit, seqQ_ret, blockQ_normal, blockQ_exit, blockQ_ret, iterQ_normal, iterQ_exit, iterQ_ret, retQ_normal, retQ_ret, retQ_exit, pickQ_bool, guardQ_some, guardQ_skip, setC, List.length_set, decide_eq_true_eq, decide_eq_false_iff_not, true_implies, false_implies, forall_const, reduceCtorEq, eq_self, Int.natCast_nonneg, Int.toNat_natCast, Int.ofNat_lt, D.int.injEq, Option.some.injEq, Nat.zero_add, Nat.add_zero, bne_iff_ne, bne_eq_false_iff_eq, beq_iff_eq, beq_eq_false_iff_ne, gt_iff_lt, ne_eq, not_true_eq_false, not_false_eq_true, hl, h1, h5, h14, h15, hlt, hb, wrap_ok, sumN, sumStep, Int.natCast_add, Int.natCast_one]
      · simp (decide := true) (disch := omega) only [push_cast, ↓wc_seq, ↓wc_block, ↓wc_scope, ↓wc_cond, ↓wc_region, ↓wr_cons, ↓wr_consg, ↓wr_nil, ↓wo_pick, ↓wo_callf, ↓wc_exit, ↓wc_ret, ↓wc_skip, ↓wc_wl, wo_some, wo_none, wo_ite, opQ_eq, seqQ_normal, seqQ_exit, seqQ_ret, blockQ_normal, blockQ_exit, blockQ_ret, iterQ_normal, iterQ_exit, iterQ_ret, retQ_normal, retQ_ret, retQ_exit, pickQ_bool, guardQ_some, guardQ_skip, setC, List.length_set, decide_eq_true_eq, decide_eq_false_iff_not, true_implies, false_implies, forall_const, reduceCtorEq, eq_self, Int.natCast_nonneg, Int.toNat_natCast, Int.ofNat_lt, D.int.injEq, Option.some.injEq, Nat.zero_add, Nat.add_zero, bne_iff_ne, bne_eq_false_iff_eq, beq_iff_eq, beq_eq_false_iff_ne, gt_iff_lt, ne_eq, not_true_eq_false, not_false_eq_true, hl, h1, h5, h14, h15, Nat.lt_irrefl, wrap_ok, Tryd.f95, sumR]
set_option maxRecDepth 100000 in
theorem ref_Sum_d {n : Nat} {x : Int} {s : ByteArray} {S : List Ob} (hn : s.size < n) (hz : s.size ≤ 1000) : WO (dcall E (n + 1) 96 [.int .i64 x, .str s] S) fun d T => d = .int .i64 (sumR x s) ∧ T = S := by
  refine wo_dcall Tryd.func96 rfl (by decide) rfl 31 rfl (fun a hl ha => ?_)
  have h0 : a[0]? = some (.int .i64 x) := ha 0 (by simp)
  have h1 : a[1]? = some (.str s) := ha 1 (by simp)
  clear ha
  simp (decide := true) only [push_cast, ↓wc_seq, ↓wc_block, ↓wc_scope, ↓wc_cond, ↓wc_region, ↓wr_cons, ↓wr_consg, ↓wr_nil, ↓wo_pick, ↓wo_callf, ↓wc_exit, ↓wc_ret, ↓wc_skip, ↓wc_wl, wo_some, wo_none, wo_ite, opQ_eq, seqQ_normal, seqQ_exit, seqQ_ret, blockQ_normal, blockQ_exit, blockQ_ret, iterQ_normal, iterQ_exit, iterQ_ret, retQ_normal, retQ_ret, retQ_exit, pickQ_bool, guardQ_some, guardQ_skip, setC, List.length_set, decide_eq_true_eq, decide_eq_false_iff_not, true_implies, false_implies, forall_const, reduceCtorEq, eq_self, Int.natCast_nonneg, Int.toNat_natCast, Int.ofNat_lt, D.int.injEq, Option.some.injEq, Nat.zero_add, Nat.add_zero, bne_iff_ne, bne_eq_false_iff_eq, beq_iff_eq, beq_eq_false_iff_ne, gt_iff_lt, ne_eq, not_true_eq_false, not_false_eq_true, hl, h0, h1]
  refine ⟨fun hx => ?_, fun hx => ?_⟩ <;>
  · refine wl_loop (fun i a T => T = S ∧ a.length = 31 ∧ a[1]? = some (.str s) ∧ a[5]? = some (.int .i64 (sumN (sumI x) s i)) ∧ a[6]? = some (.int .i64 i)) s.size ?_ hn ?_
    · simp (decide := true) only [push_cast, ↓wc_seq, ↓wc_block, ↓wc_scope, ↓wc_cond, ↓wc_region, ↓wr_cons, ↓wr_consg, ↓wr_nil, ↓wo_pick, ↓wo_callf, ↓wc_exit, ↓wc_ret, ↓wc_skip, ↓wc_wl, wo_some, wo_none, wo_ite, opQ_eq, seqQ_normal, seqQ_exit, seqQ_ret, blockQ_normal, blockQ_exit, blockQ_ret, iterQ_normal, iterQ_exit, iterQ_ret, retQ_normal, retQ_ret, retQ_exit, pickQ_bool, guardQ_some, guardQ_skip, setC, List.length_set, decide_eq_true_eq, decide_eq_false_iff_not, true_implies, false_implies, forall_const, reduceCtorEq, eq_self, Int.natCast_nonneg, Int.toNat_natCast, Int.ofNat_lt, D.int.injEq, Option.some.injEq, Nat.zero_add, Nat.add_zero, bne_iff_ne, bne_eq_false_iff_eq, beq_iff_eq, beq_eq_false_iff_ne, gt_iff_lt, ne_eq, not_true_eq_false, not_false_eq_true, hl, h0, h1, sumN, sumI, hx, Int.natCast_zero]
    · rintro i a T hi ⟨rfl, hl, h1, h5, h15⟩
      rcases Nat.lt_or_eq_of_le hi with hlt | rfl
      · obtain ⟨b, hb⟩ := byte_at hlt
        simp (decide := true) (disch := omega) only [push_cast, ↓wc_seq, ↓wc_block, ↓wc_scope, ↓wc_cond, ↓wc_region, ↓wr_cons, ↓wr_consg, ↓wr_nil, ↓wo_pick, ↓wo_callf, ↓wc_exit, ↓wc_ret, ↓wc_skip, ↓wc_wl, wo_some, wo_none, wo_ite, opQ_eq, seqQ_normal, seqQ_exit, seqQ_ret, blockQ_normal, blockQ_exit, blockQ_ret, iterQ_normal, iterQ_exit, iterQ_ret, retQ_normal, retQ_ret, retQ_exit, pickQ_bool, guardQ_some, guardQ_skip, setC, List.length_set, decide_eq_true_eq, decide_eq_false_iff_not, true_implies, false_implies, forall_const, reduceCtorEq, eq_self, Int.natCast_nonneg, Int.toNat_natCast, Int.ofNat_lt, D.int.injEq, Option.some.injEq, Nat.zero_add, Nat.add_zero, bne_iff_ne, bne_eq_false_iff_eq, beq_iff_eq, beq_eq_false_iff_ne, gt_iff_lt, ne_eq, not_true_eq_false, not_false_eq_true, hl, h1, h5, h15, hlt, hb, wrap_ok, sumN, sumStep, Int.natCast_add, Int.natCast_one]
      · simp (decide := true) (disch := omega) only [push_cast, ↓wc_seq, ↓wc_block, ↓wc_scope, ↓wc_cond, ↓wc_region, ↓wr_cons, ↓wr_consg, ↓wr_nil, ↓wo_pick, ↓wo_callf, ↓wc_exit, ↓wc_ret, ↓wc_skip, ↓wc_wl, wo_some, wo_none, wo_ite, opQ_eq, seqQ_normal, seqQ_exit, seqQ_ret, blockQ_normal, blockQ_exit, blockQ_ret, iterQ_normal, iterQ_exit, iterQ_ret, retQ_normal, retQ_ret, retQ_exit, pickQ_bool, guardQ_some, guardQ_skip, setC, List.length_set, decide_eq_true_eq, decide_eq_false_iff_not, true_implies, false_implies, forall_const, reduceCtorEq, eq_self, Int.natCast_nonneg, Int.toNat_natCast, Int.ofNat_lt, D.int.injEq, Option.some.injEq, Nat.zero_add, Nat.add_zero, bne_iff_ne, bne_eq_false_iff_eq, beq_iff_eq, beq_eq_false_iff_ne, gt_iff_lt, ne_eq, not_true_eq_false, not_false_eq_true, hl, h1, h5, h15, Nat.lt_irrefl, wrap_ok, Tryd.f96, sumR]
end Go.Proofs.YtgfbblpkddahbaaDoor.Dm
