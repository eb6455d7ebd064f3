/-
  The machine at Verify of a journal whose records lie in a row of the store.
-/
import Derived.Test.YtgfbblpkddahbaaDoorAuV
namespace Go.Proofs.YtgfbblpkddahbaaDoor.Dm
open Go
set_option linter.unusedSimpArgs false

theorem get_old {S J : List Ob} {k : Nat} {o : Ob} (h : S[k]? = some o) : (S ++ J)[k]? = some o := by
  rw [List.getElem?_append_left ((List.getElem?_eq_some_iff.1 h).1)]; exact h
set_option maxHeartbeats 8000000 in
set_option maxRecDepth 100000 in
theorem Verify_d {n : Nat} {rs : List Rec} {k : Nat} {S : List Ob} (hk : S[k]? = some (.row 3 (rs.map Rec.enc))) (hn : 300 ≤ n) (hl : rs.length ≤ 30) (hz : ∀ r ∈ rs, r.t.size ≤ 200) : WO (dcall E (n + 1) 44 [.os k 0 rs.length false] S) fun d T => d = .tup [.int .i64 (verR 0 0 rs).1, .int .i64 (verR 0 0 rs).2] ∧ ∃ J, T = S ++ J := by
  refine wo_dcall Tryd.func44 rfl (by decide) rfl 44 rfl (fun a hal ha => ?_)
  have h0 : a[0]? = some (.os k 0 rs.length false) := ha 0 (by simp)
  clear ha
  simp (decide := true) (maxSteps := 4000000) (disch := omega) only [push_cast, ↓wc_seq, ↓wc_block, ↓wc_scope, ↓wc_cond, ↓wc_region, ↓wr_cons, ↓wr_consg, ↓wr_nil, ↓wo_pick, ↓wo_callf, ↓wc_exit, ↓wc_ret, ↓wc_skip, ↓wc_wl, wo_some, wo_none, wo_ite, opQ_eq, seqQ_normal, seqQ_exit, seqQ_ret, blockQ_normal, blockQ_exit, blockQ_ret, iterQ_normal, iterQ_exit, iterQ_ret, retQ_normal, retQ_ret, retQ_exit, pickQ_bool, guardQ_some, guardQ_skip, setC, List.length_set, decide_eq_true_eq, decide_eq_false_iff_not, true_implies, false_implies, forall_const, reduceCtorEq, eq_self, Int.natCast_nonneg, Int.toNat_natCast, Int.ofNat_lt, D.int.injEq, Option.some.injEq, Nat.zero_add, Nat.add_zero, bne_iff_ne, bne_eq_false_iff_eq, beq_iff_eq, beq_eq_false_iff_ne, gt_iff_lt, ne_eq, not_true_eq_false, not_false_eq_true, hal, h0]
  refine wl_loop (fun i a T => (∃ J, T = S ++ J) ∧ a.length = 44 ∧ a[0]? = some (.os k 0 rs.length false) ∧ a[7]? = some (.os k 0 rs.length false) ∧ a[8]? = some (.int .i64 rs.length) ∧ a[9]? = some (.int .i64 i) ∧ ∃ sm, a[4]? = some (.int .i64 sm) ∧ verR 0 0 rs = verR i sm (rs.drop i)) rs.length ?_ (by omega) ?_
  · simp (decide := true) (maxSteps := 4000000) (disch := omega) only [push_cast, ↓wc_seq, ↓wc_block, ↓wc_scope, ↓wc_cond, ↓wc_region, ↓wr_cons, ↓wr_consg, ↓wr_nil, ↓wo_pick, ↓wo_callf, ↓wc_exit, ↓wc_ret, ↓wc_skip, ↓wc_wl, wo_some, wo_none, wo_ite, opQ_eq, seqQ_normal, seqQ_exit, seqQ_ret, blockQ_normal, blockQ_exit, blockQ_ret, iterQ_normal, iterQ_exit, iterQ_ret, retQ_normal, retQ_ret, retQ_exit, pickQ_bool, guardQ_some, guardQ_skip, setC, List.length_set, decide_eq_true_eq, decide_eq_false_iff_not, true_implies, false_implies, forall_const, reduceCtorEq, eq_self, Int.natCast_nonneg, Int.toNat_natCast, Int.ofNat_lt, D.int.injEq, Option.some.injEq, Nat.zero_add, Nat.add_zero, bne_iff_ne, bne_eq_false_iff_eq, beq_iff_eq, beq_eq_false_iff_ne, gt_iff_lt, ne_eq, not_true_eq_false, not_false_eq_true, hal, h0, Int.natCast_zero]
    exact ⟨⟨[], by simp⟩, 0, rfl, rfl⟩
  · rintro i a T hi ⟨⟨J, hT⟩, hal, h0, h7, h8, h9, sm, h4, hv⟩
    have hTk : T[k]? = some (.row 3 (rs.map Rec.enc)) := hT ▸ get_old hk
    rcases Nat.lt_or_eq_of_le hi with hlt | rfl
    · obtain ⟨r, hr⟩ : ∃ r, rs[i]? = some r := ⟨rs[i], by simp [hlt]⟩
      have hm := hz r (List.mem_of_getElem? hr)
      have hd : rs.drop i = r :: rs.drop (i + 1) := by
        have := (List.getElem?_eq_some_iff.1 hr).2
        rw [← this]
        exact List.drop_eq_getElem_cons hlt
      rw [hd] at hv
      simp (decide := true) (maxSteps := 4000000) (disch := omega) only [push_cast, ↓wc_seq, ↓wc_block, ↓wc_scope, ↓wc_cond, ↓wc_region, ↓wr_cons, ↓wr_consg, ↓wr_nil, ↓wo_pick, ↓wo_callf, ↓wc_exit, ↓wc_ret, ↓wc_skip, ↓wc_wl, wo_some, wo_none, wo_ite, opQ_eq, seqQ_normal, seqQ_exit, seqQ_ret, blockQ_normal, blockQ_exit, blockQ_ret, iterQ_normal, iterQ_exit, iterQ_ret, retQ_normal, retQ_ret, retQ_exit, pickQ_bool, guardQ_some, guardQ_skip, setC, List.length_set, decide_eq_true_eq, decide_eq_false_iff_not, true_implies, false_implies, forall_const, reduceCtorEq, eq_self, Int.natCast_nonneg, Int.toNat_natCast, Int.ofNat_lt, D.int.injEq, Option.some.injEq, Nat.zero_add, Nat.add_zero, bne_iff_ne, bne_eq_false_iff_eq, beq_iff_eq, beq_eq_false_iff_ne, gt_iff_lt, ne_eq, not_true_eq_false, not_false_eq_true, hal, h0, h4, h7, h8, h9, hlt, hTk, set_end, get_end, wrap_ok, List.length_map, List.getElem?_map, hr, Rec.enc, Sum_c hn hm, Tryd.f44]
      rw [verR] at hv
      refine ⟨fun c => ?_, fun c => ⟨fun c2 => ?_, fun c2 => ⟨fun c3 => ?_, fun c3 => ?_⟩⟩⟩
      · rw [if_pos c] at hv; rw [hv]; exact ⟨rfl, _, by rw [hT, List.append_assoc]⟩
      · rw [if_neg (by simpa using c), if_pos (by omega)] at hv; rw [hv]; exact ⟨rfl, _, by rw [hT, List.append_assoc]⟩
      · rw [if_neg (by simpa using c), if_neg (by omega), if_pos c3] at hv; rw [hv]; exact ⟨rfl, _, by rw [hT, List.append_assoc]⟩
      · rw [if_neg (by simpa using c), if_neg (by omega), if_neg (by simpa using c3)] at hv
        exact ⟨⟨_, by rw [hT, List.append_assoc]⟩, _, rfl, hv⟩
    · simp (decide := true) (maxSteps := 4000000) (disch := omega) only [push_cast, ↓wc_seq, ↓wc_block, ↓wc_scope, ↓wc_cond, ↓wc_region, ↓wr_cons, ↓wr_consg, ↓wr_nil, ↓wo_pick, ↓wo_callf, ↓wc_exit, ↓wc_ret, ↓wc_skip, ↓wc_wl, wo_some, wo_none, wo_ite, opQ_eq, seqQ_normal, seqQ_exit, seqQ_ret, blockQ_normal, blockQ_exit, blockQ_ret, iterQ_normal, iterQ_exit, iterQ_ret, retQ_normal, retQ_ret, retQ_exit, pickQ_bool, guardQ_some, guardQ_skip, setC, List.length_set, decide_eq_true_eq, decide_eq_false_iff_not, true_implies, false_implies, forall_const, reduceCtorEq, eq_self, Int.natCast_nonneg, Int.toNat_natCast, Int.ofNat_lt, D.int.injEq, Option.some.injEq, Nat.zero_add, Nat.add_zero, bne_iff_ne, bne_eq_false_iff_eq, beq_iff_eq, beq_eq_false_iff_ne, gt_iff_lt, ne_eq, not_true_eq_false, not_false_eq_true, hal, h0, h4, h7, h8, h9, Nat.lt_irrefl, wrap_ok, List.length_map, Tryd.f44]
      rw [hv, List.drop_length]
      exact ⟨rfl, _, hT⟩
end Go.Proofs.YtgfbblpkddahbaaDoor.Dm
