/-
  The machine at Verify of a journal and of its reference: both hand back one pair of numbers.
-/
import Derived.Test.YtgfbblpkddahbaaDoorAuS
namespace Go.Proofs.YtgfbblpkddahbaaDoor.Dm
open Go
set_option linter.unusedSimpArgs false

structure Rec where
  n : Int
  t : ByteArray
  s : Int
def Rec.enc (r : Rec) : List D := [.int .i64 r.n, .str r.t, .int .i64 r.s]
def verR (i : Nat) (sum : Int) : List Rec → Int × Int
  | [] => (i, 0)
  | r :: l => if r.n ≠ i + 1 then (i + 1, 29) else if 65536 < r.t.size then (i + 1, 4) else if r.s ≠ sumR sum r.t then (i + 1, 37) else verR (i + 1) r.s l
theorem set_end {α : Type} {l : List α} {x y : α} : (l ++ [x]).set l.length y = l ++ [y] := by simp
theorem get_end {α : Type} {l : List α} {x : α} : (l ++ [x])[l.length]? = some x := by simp
theorem Sum_c {n : Nat} (hn : 300 ≤ n) {x : Int} {s : ByteArray} (hz : s.size ≤ 200) {st : Bool} {S : List Ob} : callD E (dcall E n) st S 95 [.int .i64 x, .str s] = some (.int .i64 (sumR x s), S) := by
  obtain ⟨m, rfl⟩ : ∃ m, n = m + 1 := ⟨n - 1, by omega⟩
  exact callD_pure rfl rfl (eq_of_wo (Sum_d (by omega) (by omega))) rfl
theorem ref_Sum_c {n : Nat} (hn : 300 ≤ n) {x : Int} {s : ByteArray} (hz : s.size ≤ 200) {st : Bool} {S : List Ob} : callD E (dcall E n) st S 96 [.int .i64 x, .str s] = some (.int .i64 (sumR x s), S) := by
  obtain ⟨m, rfl⟩ : ∃ m, n = m + 1 := ⟨n - 1, by omega⟩
  exact callD_pure rfl rfl (eq_of_wo (ref_Sum_d (by omega) (by omega))) rfl

set_option maxHeartbeats 8000000 in
set_option maxRecDepth 100000 in
theorem ref_Verify_d {n : Nat} {rs : List Rec} {x : Bool} {S : List Ob} (hn : 300 ≤ n) (hl : rs.length ≤ 30) (hz : ∀ r ∈ rs, r.t.size ≤ 200) : WO (dcall E (n + 1) 46 [.sl 3 (rs.map Rec.enc) x] S) fun d T => d = .tup [.int .i64 (verR 0 0 rs).1, .int .i64 (verR 0 0 rs).2] ∧ T = S := by
  refine wo_dcall Tryd.func46 rfl (by decide) rfl 49 rfl (fun a hal ha => ?_)
  have h0 : a[0]? = some (.sl 3 (rs.map Rec.enc) x) := ha 0 (by simp)
  clear ha
  simp (decide := true) (maxSteps := 4000000) (disch := omega) only [push_cast, ↓wc_seq, ↓wc_block, ↓wc_scope, ↓wc_cond, ↓wc_region, ↓wr_cons, ↓wr_consg, ↓wr_nil, ↓wo_pick, ↓wo_callf, ↓wc_exit, ↓wc_ret, ↓wc_skip, ↓wc_wl, wo_some, wo_none, wo_ite, opQ_eq, seqQ_normal, seqQ_exit, seqQ_ret, blockQ_normal, blockQ_exit, blockQ_ret, iterQ_normal, iterQ_exit, iterQ_ret, retQ_normal, retQ_ret, retQ_exit, pickQ_bool, guardQ_some, guardQ_skip, setC, List.length_set, decide_eq_true_eq, decide_eq_false_iff_not, true_implies, false_implies, forall_const, reduceCtorEq, eq_self, Int.natCast_nonneg, Int.toNat_natCast, Int.ofNat_lt, D.int.injEq, Option.some.injEq, Nat.zero_add, Nat.add_zero, bne_iff_ne, bne_eq_false_iff_eq, beq_iff_eq, beq_eq_false_iff_ne, gt_iff_lt, ne_eq, not_true_eq_false, not_false_eq_true, hal, h0]
  refine wl_loop (fun i a T => T = S ∧ a.length = 49 ∧ a[0]? = some (.sl 3 (rs.map Rec.enc) x) ∧ a[5]? = some (.int .i64 i) ∧ ∃ sm, a[4]? = some (.int .i64 sm) ∧ verR 0 0 rs = verR i sm (rs.drop i)) rs.length ?_ (by omega) ?_
  · simp (decide := true) (maxSteps := 4000000) (disch := omega) only [push_cast, ↓wc_seq, ↓wc_block, ↓wc_scope, ↓wc_cond, ↓wc_region, ↓wr_cons, ↓wr_consg, ↓wr_nil, ↓wo_pick, ↓wo_callf, ↓wc_exit, ↓wc_ret, ↓wc_skip, ↓wc_wl, wo_some, wo_none, wo_ite, opQ_eq, seqQ_normal, seqQ_exit, seqQ_ret, blockQ_normal, blockQ_exit, blockQ_ret, iterQ_normal, iterQ_exit, iterQ_ret, retQ_normal, retQ_ret, retQ_exit, pickQ_bool, guardQ_some, guardQ_skip, setC, List.length_set, decide_eq_true_eq, decide_eq_false_iff_not, true_implies, false_implies, forall_const, reduceCtorEq, eq_self, Int.natCast_nonneg, Int.toNat_natCast, Int.ofNat_lt, D.int.injEq, Option.some.injEq, Nat.zero_add, Nat.add_zero, bne_iff_ne, bne_eq_false_iff_eq, beq_iff_eq, beq_eq_false_iff_ne, gt_iff_lt, ne_eq, not_true_eq_false, not_false_eq_true, hal, h0, Int.natCast_zero]
    exact ⟨0, rfl, rfl⟩
  · rintro i a T hi ⟨rfl, hal, h0, h5, sm, h4, hv⟩
    rcases Nat.lt_or_eq_of_le hi with hlt | rfl
    · obtain ⟨r, hr⟩ : ∃ r, rs[i]? = some r := ⟨rs[i], by simp [hlt]⟩
      have hm := hz r (List.mem_of_getElem? hr)
      have hd : rs.drop i = r :: rs.drop (i + 1) := by
        have := (List.getElem?_eq_some_iff.1 hr).2
        rw [← this]
        exact List.drop_eq_getElem_cons hlt
      rw [hd] at hv
      simp (decide := true) (maxSteps := 4000000) (disch := omega) only [push_cast, ↓wc_seq, ↓wc_block, ↓wc_scope, ↓wc_cond, ↓wc_region, ↓wr_cons, ↓wr_consg, ↓wr_nil, ↓wo_pick, ↓wo_callf, ↓wc_exit, ↓wc_ret, ↓wc_skip, ↓wc_wl, wo_some, wo_none, wo_ite, opQ_eq, seqQ_normal, seqQ_exit, seqQ_ret, blockQ_normal, blockQ_exit, blockQ_ret, iterQ_normal, iterQ_exit, iterQ_ret, retQ_normal, retQ_ret, retQ_exit, pickQ_bool, guardQ_some, guardQ_skip, setC, List.length_set, decide_eq_true_eq, decide_eq_false_iff_not, true_implies, false_implies, forall_const, reduceCtorEq, eq_self, Int.natCast_nonneg, Int.toNat_natCast, Int.ofNat_lt, D.int.injEq, Option.some.injEq, Nat.zero_add, Nat.add_zero, bne_iff_ne, bne_eq_false_iff_eq, beq_iff_eq, beq_eq_false_iff_ne, gt_iff_lt, ne_eq, not_true_eq_false, not_false_eq_true, hal, h0, h5, h4, hlt, wrap_ok, List.length_map, List.getElem?_map, hr, Rec.enc, ref_Sum_c hn hm, Tryd.f46]
      rw [verR] at hv
      refine ⟨fun c => ?_, fun c => ⟨fun c2 => ?_, fun c2 => ⟨fun c3 => ?_, fun c3 => ?_⟩⟩⟩
      · rw [if_pos c] at hv; rw [hv]
      · rw [if_neg (by simpa using c), if_pos (by omega)] at hv; rw [hv]
      · rw [if_neg (by simpa using c), if_neg (by omega), if_pos c3] at hv; rw [hv]
      · rw [if_neg (by simpa using c), if_neg (by omega), if_neg (by simpa using c3)] at hv
        exact ⟨_, rfl, by rw [hv, c3]⟩
    · simp (decide := true) (maxSteps := 4000000) (disch := omega) only [push_cast, ↓wc_seq, ↓wc_block, ↓wc_scope, ↓wc_cond, ↓wc_region, ↓wr_cons, ↓wr_consg, ↓wr_nil, ↓wo_pick, ↓wo_callf, ↓wc_exit, ↓wc_ret, ↓wc_skip, ↓wc_wl, wo_some, wo_none, wo_ite, opQ_eq, seqQ_normal, seqQ_exit, seqQ_ret, blockQ_normal, blockQ_exit, blockQ_ret, iterQ_normal, iterQ_exit, iterQ_ret, retQ_normal, retQ_ret, retQ_exit, pickQ_bool, guardQ_some, guardQ_skip, setC, List.length_set, decide_eq_true_eq, decide_eq_false_iff_not, true_implies, false_implies, forall_const, reduceCtorEq, eq_self, Int.natCast_nonneg, Int.toNat_natCast, Int.ofNat_lt, D.int.injEq, Option.some.injEq, Nat.zero_add, Nat.add_zero, bne_iff_ne, bne_eq_false_iff_eq, beq_iff_eq, beq_eq_false_iff_ne, gt_iff_lt, ne_eq, not_true_eq_false, not_false_eq_true, hal, h0, h5, h4, Nat.lt_irrefl, wrap_ok, List.length_map, Tryd.f46]
      rw [hv, List.drop_length]
      rfl
end Go.Proofs.YtgfbblpkddahbaaDoor.Dm
