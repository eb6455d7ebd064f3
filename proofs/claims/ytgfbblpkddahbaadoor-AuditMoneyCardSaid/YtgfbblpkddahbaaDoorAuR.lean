/-
  The machine at Records and at its reference: the same violations.
-/
import Derived.Test.YtgfbblpkddahbaaDoorAuF
import Derived.Test.YtgfbblpkddahbaaDoorWq
namespace Go.Proofs.YtgfbblpkddahbaaDoor.Dm
open Go
set_option linter.unusedSimpArgs false

def strOf : Option (D × List Ob) → Option ByteArray
  | some (.str s, _) => some s
  | _ => none
noncomputable def decS (n : Nat) : ByteArray := (strOf (dcall E 998 47 [.int .i64 n] [])).getD ⟨#[]⟩
def sameS (a b : Option ByteArray) : Bool :=
  match a, b with
  | some x, some y => decide (x = y)
  | _, _ => false
theorem dec_all : (List.range 32).all (fun n => sameS (strOf (dcall E 998 45 [.int .i64 n] [])) (strOf (dcall E 998 47 [.int .i64 n] []))) = true := by kernel_rfl
theorem sameS_spec {a b : Option ByteArray} (h : sameS a b = true) : ∃ s, a = some s ∧ b = some s := by
  unfold sameS at h
  split at h
  · simp only [decide_eq_true_eq] at h; subst h; exact ⟨_, rfl, rfl⟩
  · cases h
theorem strOf_spec {o : Option (D × List Ob)} {s : ByteArray} (h : strOf o = some s) : ∃ T, o = some (.str s, T) := by
  unfold strOf at h
  split at h
  · cases h; exact ⟨_, rfl⟩
  · cases h
theorem dec_both {n : Nat} (hn : n < 32) : (∀ st S, callD E (dcall E 998) st S 45 [.int .i64 n] = some (.str (decS n), S)) ∧ ∀ st S, callD E (dcall E 998) st S 47 [.int .i64 n] = some (.str (decS n), S) := by
  obtain ⟨s, h1, h2⟩ := sameS_spec (List.all_eq_true.1 dec_all n (List.mem_range.2 hn))
  have hs : decS n = s := by unfold decS; rw [h2]; rfl
  rw [hs]
  obtain ⟨T1, e1⟩ := strOf_spec h1
  obtain ⟨T2, e2⟩ := strOf_spec h2
  exact ⟨fun st S => callD_pure rfl rfl e1 rfl, fun st S => callD_pure rfl rfl e2 rfl⟩
theorem verR_bd : ∀ (rs : List Rec) (i : Nat) (sum : Int), ∃ j : Nat, (verR i sum rs).1 = j ∧ j ≤ i + rs.length
  | [], i, sum => ⟨i, rfl, by simp⟩
  | r :: rs, i, sum => by
    unfold verR
    split
    · exact ⟨i + 1, by simp, by simp⟩
    · split
      · exact ⟨i + 1, by simp, by simp⟩
      · split
        · exact ⟨i + 1, by simp, by simp⟩
        · obtain ⟨j, h1, h2⟩ := verR_bd rs (i + 1) r.s
          exact ⟨j, h1, by simp; omega⟩
def cmdS : ByteArray := ByteArray.mk #[99, 111, 109, 109, 97, 110, 100, 115]
noncomputable def recF (rs : List Rec) (c : Int) : List (Int × ByteArray) :=
  (if (verR 0 0 rs).2 = 0 then [] else [(37, decS (verR 0 0 rs).1.toNat)]) ++ if c < 0 ∨ (rs.length : Int) < c then [(36, cmdS)] else []
theorem get_end' {α : Type} {l : List α} {i : Nat} {x y : α} : (l.set i y ++ [x])[l.length]? = some x := by
  have : (l.set i y).length = l.length := by simp
  rw [← this]; exact get_end
theorem callD_own {call : Call} {S : List Ob} {f : FuncId} {args : List D} (hm : E.mode f = .pure) (hp : pureL args = false) : callD E call false S f args = call f args S := by
  unfold callD
  rw [hm]
  dsimp only
  rw [if_neg (by rw [hp]; simp), if_neg (by simp)]
theorem encR_pure (rs : List Rec) (x : Bool) : pureL [.sl 3 (rs.map Rec.enc) x] = true := by
  have : pureLL (rs.map Rec.enc) = true := by
    induction rs with
    | nil => rfl
    | cons r rs ih => rw [List.map_cons, pureLL_cons, ih]; rfl
  simp only [pureL_cons, pureL_nil, D.pure, this, Bool.and_true]
theorem bytes_fault : bytesT Tryd.prog 104 = 24 := by kernel_rfl
set_option maxHeartbeats 400000 in
set_option maxRecDepth 100000 in
theorem ref_Records_d {rs : List Rec} {x : Bool} {c : Int} {S : List Ob} (hl : rs.length ≤ 30) (hz : ∀ r ∈ rs, r.t.size ≤ 200) : WO (dcall E 999 14 [.sl 3 (rs.map Rec.enc) x, .int .i64 c] S) fun d T => FV T d (recF rs c) := by
  have hv := eq_of_wo (ref_Verify_d (x := x) (n := 997) (S := []) (by omega) hl hz)
  have cv : ∀ st S, callD E (dcall E 998) st S 46 [.sl 3 (rs.map Rec.enc) x] = some (.tup [.int .i64 (verR 0 0 rs).1, .int .i64 (verR 0 0 rs).2], S) := fun st S => callD_pure rfl (encR_pure rs x) hv rfl
  obtain ⟨j, hj, hjl⟩ := verR_bd rs 0 0
  have cd := (dec_both (n := j) (by omega)).2
  unfold recF
  rw [hj] at cv ⊢
  rw [Int.toNat_natCast]
  generalize (verR 0 0 rs).2 = e at *
  generalize decS j = ds at *
  refine wo_dcall Tryd.func14 rfl (by decide) rfl 34 rfl (fun a hal ha => ?_)
  have h0 : a[0]? = some (.sl 3 (rs.map Rec.enc) x) := ha 0 (by simp)
  have h1 : a[1]? = some (.int .i64 c) := ha 1 (by simp)
  clear ha
  by_cases he : e = 0 <;> by_cases hc : c < 0 <;> by_cases hc' : (rs.length : Int) < c <;>
  · simp (maxSteps := 1000000) (disch := omega) only [push_cast, ↓wc_seq, ↓wc_block, ↓wc_scope, ↓wc_condL, ↓wc_region, ↓wr_cons, ↓wr_consgL, ↓wr_nil, ↓wo_pickL, ↓wo_callf, ↓wc_exit, ↓wc_ret, ↓wc_skip, ↓wc_wl, wo_some, wo_none, wo_ite, opQ_eq, seqQ_normal, seqQ_exit, seqQ_ret, blockQ_normal, blockQ_exit, blockQ_ret, iterQ_normal, iterQ_exit, iterQ_ret, retQ_normal, retQ_ret, retQ_exit, pickC_true, pickC_false, pickO_true, pickO_false, gstep_tt, gstep_ff, gstep_tf, gstep_ft, gstep_skip, int_bne, int_beq, decide_not, Nat.reduceAdd, Nat.reduceMul, Nat.reduceSub, Nat.reducePow, Nat.reduceLT, Nat.reduceLeDiff, Nat.reduceEqDiff, Int.reduceToNat, Int.reduceAdd, Int.reduceSub, Int.reduceNeg, Int.reduceMul, Int.reduceLT, Int.reduceLE, Int.reduceEq, le_max, ↓wo_build, ↓wo_buildSlice, evParts, ↓reduceIte, hasExt, cntFs, ovlFs, List.contains_cons, List.contains_nil, List.any_cons, List.any_nil, Nat.reduceBEq, setC, List.length_set, decide_eq_true_eq, decide_eq_false_iff_not, true_implies, false_implies, forall_const, reduceCtorEq, eq_self, Int.natCast_nonneg, Int.toNat_natCast, Int.ofNat_lt, D.int.injEq, Option.some.injEq, Nat.zero_add, Nat.add_zero, bne_iff_ne, bne_eq_false_iff_eq, beq_iff_eq, beq_eq_false_iff_ne, gt_iff_lt, ne_eq, not_true_eq_false, not_false_eq_true, hal, h0, h1, cv, cd, he, hc, hc', List.length_map, or_true, true_or, or_false, dAppend, get_end, get_end', Tryd.f14]
    first
    | exact .inl ⟨rfl, rfl⟩
    | exact .inr (.inr ⟨_, rfl, get_end⟩)
    | exact .inr (.inr ⟨_, rfl, get_end'⟩)
set_option maxHeartbeats 400000 in
set_option maxRecDepth 100000 in
theorem Records_d {rs : List Rec} {k : Nat} {c : Int} {S : List Ob} (hk : S[k]? = some (.row 3 (rs.map Rec.enc))) (hl : rs.length ≤ 30) (hz : ∀ r ∈ rs, r.t.size ≤ 200) : WO (dcall E 999 13 [.os k 0 rs.length false, .int .i64 c] S) fun d T => FV T d (recF rs c) := by
  obtain ⟨d, T, ho, rfl, J, hT⟩ := Verify_d (n := 997) hk (by omega) hl hz
  have cv : callD E (dcall E 998) false S 44 [.os k 0 rs.length false] = some (.tup [.int .i64 (verR 0 0 rs).1, .int .i64 (verR 0 0 rs).2], T) := (callD_own rfl rfl).trans ho
  clear ho hT
  obtain ⟨j, hj, hjl⟩ := verR_bd rs 0 0
  have cd := (dec_both (n := j) (by omega)).1
  unfold recF
  rw [hj] at cv ⊢
  rw [Int.toNat_natCast]
  generalize (verR 0 0 rs).2 = e at *
  generalize decS j = ds at *
  refine wo_dcall Tryd.func13 rfl (by decide) rfl 34 rfl (fun a hal ha => ?_)
  have h0 : a[0]? = some (.os k 0 rs.length false) := ha 0 (by simp)
  have h1 : a[1]? = some (.int .i64 c) := ha 1 (by simp)
  clear ha
  by_cases he : e = 0 <;> by_cases hc : c < 0 <;> by_cases hc' : (rs.length : Int) < c <;>
  · simp (maxSteps := 1000000) (disch := omega) only [push_cast, ↓wc_seq, ↓wc_block, ↓wc_scope, ↓wc_condL, ↓wc_region, ↓wr_cons, ↓wr_consgL, ↓wr_nil, ↓wo_pickL, ↓wo_callf, ↓wc_exit, ↓wc_ret, ↓wc_skip, ↓wc_wl, wo_some, wo_none, wo_ite, opQ_eq, seqQ_normal, seqQ_exit, seqQ_ret, blockQ_normal, blockQ_exit, blockQ_ret, iterQ_normal, iterQ_exit, iterQ_ret, retQ_normal, retQ_ret, retQ_exit, pickC_true, pickC_false, pickO_true, pickO_false, gstep_tt, gstep_ff, gstep_tf, gstep_ft, gstep_skip, int_bne, int_beq, decide_not, Nat.reduceAdd, Nat.reduceMul, Nat.reduceSub, Nat.reducePow, Nat.reduceLT, Nat.reduceLeDiff, Nat.reduceEqDiff, Int.reduceToNat, Int.reduceAdd, Int.reduceSub, Int.reduceNeg, Int.reduceMul, Int.reduceLT, Int.reduceLE, Int.reduceEq, le_max, ↓wo_build, ↓wo_buildSlice, evParts, ↓reduceIte, hasExt, cntFs, ovlFs, List.contains_cons, List.contains_nil, List.any_cons, List.any_nil, Nat.reduceBEq, setC, List.length_set, decide_eq_true_eq, decide_eq_false_iff_not, true_implies, false_implies, forall_const, reduceCtorEq, eq_self, Int.natCast_nonneg, Int.toNat_natCast, Int.ofNat_lt, D.int.injEq, Option.some.injEq, Nat.zero_add, Nat.add_zero, bne_iff_ne, bne_eq_false_iff_eq, beq_iff_eq, beq_eq_false_iff_ne, gt_iff_lt, ne_eq, not_true_eq_false, not_false_eq_true, hal, h0, h1, cv, cd, he, hc, hc', List.length_map, or_true, true_or, or_false, dAppend, get_end, get_end', Tryd.f13]
    first
    | exact .inl ⟨rfl, rfl⟩
    | exact .inr (.inr ⟨_, rfl, get_end⟩)
    | exact .inr (.inr ⟨_, rfl, get_end'⟩)
set_option maxHeartbeats 400000 in
set_option maxRecDepth 100000 in
theorem Records_nil {c : Int} {S : List Ob} : WO (dcall E 999 13 [.nils, .int .i64 c] S) fun d T => FV T d (recF [] c) := by
  have hv : dcall E 998 44 [.nils] [] = some (.tup [.int .i64 0, .int .i64 0], []) := by kernel_rfl
  have cv : ∀ st S, callD E (dcall E 998) st S 44 [.nils] = some (.tup [.int .i64 0, .int .i64 0], S) := fun st S => callD_pure rfl rfl hv rfl
  unfold recF
  generalize decS (verR 0 0 []).1.toNat = ds at *
  have e0 : (verR 0 0 []).2 = 0 := rfl
  refine wo_dcall Tryd.func13 rfl (by decide) rfl 34 rfl (fun a hal ha => ?_)
  have h0 : a[0]? = some .nils := ha 0 (by simp)
  have h1 : a[1]? = some (.int .i64 c) := ha 1 (by simp)
  clear ha
  by_cases hc : c < 0 <;> by_cases hc' : 0 < c <;>
  · simp (maxSteps := 1000000) (disch := omega) only [push_cast, ↓wc_seq, ↓wc_block, ↓wc_scope, ↓wc_condL, ↓wc_region, ↓wr_cons, ↓wr_consgL, ↓wr_nil, ↓wo_pickL, ↓wo_callf, ↓wc_exit, ↓wc_ret, ↓wc_skip, ↓wc_wl, wo_some, wo_none, wo_ite, opQ_eq, seqQ_normal, seqQ_exit, seqQ_ret, blockQ_normal, blockQ_exit, blockQ_ret, iterQ_normal, iterQ_exit, iterQ_ret, retQ_normal, retQ_ret, retQ_exit, pickC_true, pickC_false, pickO_true, pickO_false, gstep_tt, gstep_ff, gstep_tf, gstep_ft, gstep_skip, int_bne, int_beq, decide_not, Nat.reduceAdd, Nat.reduceMul, Nat.reduceSub, Nat.reducePow, Nat.reduceLT, Nat.reduceLeDiff, Nat.reduceEqDiff, Int.reduceToNat, Int.reduceAdd, Int.reduceSub, Int.reduceNeg, Int.reduceMul, Int.reduceLT, Int.reduceLE, Int.reduceEq, le_max, ↓wo_build, ↓wo_buildSlice, evParts, ↓reduceIte, hasExt, cntFs, ovlFs, List.contains_cons, List.contains_nil, List.any_cons, List.any_nil, Nat.reduceBEq, setC, List.length_set, decide_eq_true_eq, decide_eq_false_iff_not, true_implies, false_implies, forall_const, reduceCtorEq, eq_self, Int.natCast_nonneg, Int.toNat_natCast, Int.ofNat_lt, D.int.injEq, Option.some.injEq, Nat.zero_add, Nat.add_zero, bne_iff_ne, bne_eq_false_iff_eq, beq_iff_eq, beq_eq_false_iff_ne, gt_iff_lt, ne_eq, not_true_eq_false, not_false_eq_true, hal, h0, h1, cv, e0, hc, hc', List.length_map, Int.natCast_zero, or_true, true_or, or_false, dAppend, get_end, get_end', Tryd.f13]
    first
    | exact .inl ⟨rfl, rfl⟩
    | exact .inr (.inr ⟨_, rfl, get_end⟩)
    | exact .inr (.inr ⟨_, rfl, get_end'⟩)
end Go.Proofs.YtgfbblpkddahbaaDoor.Dm
