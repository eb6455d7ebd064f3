/-
  Lists of single cells that grow and shrink at their end, in a row that may be longer.
  The machine at library functions over lists in the caller's store: Index, Contains, Clone.
  The search for journeys: its state in the store, what it finds.
  The machine at the search for journeys: extend.
-/
import Derived.Test.YtgomkmamgflbeaaDoorGl
import Derived.Test.YtgomkmamgflbeaaDoorWpl
import Derived.Test.YtgomkmamgflbeaaDoorCoE
namespace Go.Proofs.YtgomkmamgflbeaaDoor.Dm
open Go Gw
set_option linter.unusedSimpArgs false

/-- The object that a slice may write. -/
def own : D → Option Nat
  | .os k _ _ _ => some k
  | _ => none
section
variable {α : Type} {val : α → D} {S T : List Ob} {d : D} {l : List α}
/-- A list in a row that may be longer. -/
def PL (val : α → D) (S : List Ob) (d : D) (l : List α) : Prop :=
  (d = .nils ∧ l = []) ∨ d = .sl 1 (l.map fun a => [val a]) true ∨ ∃ k es, d = .os k 0 l.length false ∧ S[k]? = some (.row 1 es) ∧ es.take l.length = l.map (fun a => [val a]) ∧ l.length ≤ es.length
theorem PL.keep (h : PL val S d l) (g : ∀ k o, own d = some k → S[k]? = some o → T[k]? = some o) : PL val T d l := by
  rcases h with h | h | ⟨k, es, h1, h2, h3, h4⟩
  · exact .inl h
  · exact .inr (.inl h)
  · exact .inr (.inr ⟨k, es, h1, g k _ (by rw [h1]; rfl) h2, h3, h4⟩)
theorem PL.lt (h : PL val S d l) {k : Nat} (hk : own d = some k) : k < S.length := by
  rcases h with ⟨rfl, -⟩ | rfl | ⟨k', es, rfl, h2, -, -⟩
  · cases hk
  · cases hk
  · cases hk; exact (List.getElem?_eq_some_iff.1 h2).1
theorem PL.os {k n : Nat} (h : PL val S (.os k 0 n false) l) : n = l.length ∧ ∃ es, S[k]? = some (.row 1 es) ∧ es.take l.length = l.map (fun a => [val a]) ∧ l.length ≤ es.length := by
  rcases h with ⟨h, -⟩ | h | ⟨k', es, h1, h2, h3, h4⟩
  · cases h
  · cases h
  · cases h1; exact ⟨rfl, es, h2, h3, h4⟩
theorem take_at {es : List (List D)} {n : Nat} (h : es.take n = l.map (fun a => [val a])) {i : Nat} {x : α} (hx : l[i]? = some x) (hn : l.length = n) : es[i]? = some [val x] := by
  have hi : i < l.length := (List.getElem?_eq_some_iff.1 hx).1
  have : (es.take n)[i]? = es[i]? := List.getElem?_take_of_lt (by omega)
  rw [← this, h, List.getElem?_map, hx]; rfl
theorem take_pre {es : List (List D)} {n m : Nat} (h : es.take n = l.map (fun a => [val a])) (hm : m ≤ n) : es.take m = (l.take m).map (fun a => [val a]) := by
  rw [List.map_take, ← h, List.take_take, Nat.min_eq_left hm]
/-- The list is shortened. -/
theorem PL.cut {k n m : Nat} (h : PL val S (.os k 0 n false) l) (hm : m ≤ n) : PL val S (.os k 0 m false) (l.take m) := by
  obtain ⟨rfl, es, h2, h3, h4⟩ := h.os
  have hl : (l.take m).length = m := by rw [List.length_take]; omega
  exact .inr (.inr ⟨k, es, by rw [hl], h2, by rw [hl]; exact take_pre h3 hm, by rw [hl]; omega⟩)
set_option maxHeartbeats 1000000 in
/-- An append of one element. -/
theorem app_pl {t e : TypeId} {z : D} (h1 : elemT Tryd.prog t = some e) (h2 : sizeT Tryd.prog e = some 1) (h3 : zeroT Tryd.prog e = some z) (h4 : z.cells.length = 1) (h5 : bytesT Tryd.prog e ≤ 100000) (h : PL val S d l) (hl : l.length ≤ 100000) (x : α) :
    ∃ k' S', dAppend Tryd.prog S t t d (.sl 1 [[val x]] true) = some (.os k' 0 (l.length + 1) false, S') ∧ PL val S' (.os k' 0 (l.length + 1) false) (l ++ [x]) ∧ (own d = some k' ∨ S.length ≤ k') ∧ S.length ≤ S'.length ∧ (∀ j o, own d ≠ some j → S[j]? = some o → S'[j]? = some o) := by
  have hb : (l.length + 1) * bytesT Tryd.prog e ≤ 140737488355328 := Nat.le_trans (Nat.mul_le_mul (Nat.succ_le_succ hl) h5) (by decide)
  have hm : (l.length + 1 ≤ maxLen) = True := le_max (by omega)
  have hlen : (l ++ [x]).length = l.length + 1 := by simp
  rcases h with ⟨rfl, rfl⟩ | rfl | ⟨k, es, rfl, hk, ht, hle⟩
  · rw [List.length_nil, Nat.zero_add, Nat.one_mul] at hb
    simp only [List.length_nil, Nat.zero_add] at hm
    refine ⟨S.length, S ++ [.row 1 [[val x]]], ?_, .inr (.inr ⟨S.length, _, rfl, get_end, rfl, Nat.le_refl _⟩), .inr (Nat.le_refl _), by simp, fun j o _ h => get_old h⟩
    simp only [List.length_nil, Nat.zero_add, dAppend, if_true, h1, h2, h3, h4, srcOf, List.length_cons, Nat.one_mul, hm, hb, and_self, Nat.succ_ne_zero, if_false, ↓reduceIte, List.nil_append]
  · have hel : (l.map fun a => [val a]).length = l.length := by simp
    refine ⟨S.length, S ++ [.row 1 ((l.map fun a => [val a]) ++ [[val x]])], ?_, .inr (.inr ⟨S.length, _, by rw [hlen], get_end, ?_, ?_⟩), .inr (Nat.le_refl _), by simp, fun j o _ h => get_old h⟩
    · generalize (l.map fun a => [val a]) = es at *
      simp only [dAppend, if_true, h1, h2, h3, h4, srcOf, hel, List.length_cons, List.length_nil, Nat.zero_add, hm, hb, and_self, Nat.succ_ne_zero, if_false, ↓reduceIte]
    · rw [hlen, List.map_append, List.map_cons, List.map_nil, List.take_of_length_le (by simp)]
    · simp
  · have hel : (es.drop 0).take l.length = l.map fun a => [val a] := by rw [List.drop_zero, ht]
    have hml : (l.map fun a => [val a]).length = l.length := by simp
    by_cases hf : l.length = es.length
    · refine ⟨S.length, S.set k .dead ++ [.row 1 (es ++ [[val x]])], ?_, .inr (.inr ⟨S.length, es ++ [[val x]], by rw [hlen], get_end', ?_, ?_⟩), .inr (Nat.le_refl _), by simp, fun j o hj h => ?_⟩
      · generalize (l.map fun a => [val a]) = es' at *
        rw [hf] at hb hm hel hml
        simp only [hf]
        simp only [dAppend, if_true, h1, h2, h3, h4, srcOf, hk, Nat.zero_add, Nat.le_refl, and_self, hel, hml, List.length_cons, List.length_nil, hm, hb, Nat.succ_ne_zero, if_false, ↓reduceIte]
      · rw [hlen, List.map_append, List.map_cons, List.map_nil, ← ht, hf, List.take_of_length_le (l := es ++ _) (by simp), List.take_of_length_le (l := es) (Nat.le_refl _)]
      · simp; omega
      · have hne : k ≠ j := fun e => hj (by rw [e]; rfl)
        exact get_old (by rw [List.getElem?_set_ne hne]; exact h)
    · have hlt : l.length + 1 ≤ es.length := by omega
      refine ⟨k, S.set k (.row 1 (es.take l.length ++ [[val x]] ++ es.drop (l.length + 1))), ?_, .inr (.inr ⟨k, _, by rw [hlen], List.getElem?_set_self ((List.getElem?_eq_some_iff.1 hk).1), ?_, ?_⟩), .inl rfl, by simp, fun j o hj h => ?_⟩
      · generalize (l.map fun a => [val a]) = es' at *
        simp only [dAppend, if_true, h1, h2, h3, h4, srcOf, hk, Nat.zero_add, hle, and_self, hel, hml, List.length_cons, List.length_nil, hm, hb, Nat.succ_ne_zero, if_false, ↓reduceIte, hf, hlt]
      · rw [hlen, List.map_append, List.map_cons, List.map_nil, ← ht]
        exact List.take_left' (by rw [List.length_append, List.length_take, Nat.min_eq_left hle]; rfl)
      · simp only [List.length_append, List.length_take, List.length_drop, List.length_cons, List.length_nil]; omega
      · have hne : k ≠ j := fun e => hj (by rw [e]; rfl)
        rw [List.getElem?_set_ne hne]; exact h
end

theorem keptS_app : ∀ (S J : List Ob), keptS S (S ++ J) = true
  | [], J => rfl
  | a :: S, J => by simp [keptS, beqOb_refl, keptS_app S J]
theorem keptS_refl (S : List Ob) : keptS S S = true := by
  have := keptS_app S []
  rwa [List.append_nil] at this
section
variable {call : Call} {st : Bool} {S : List Ob} {f : FuncId} {args : List D} {d d' : D} {T : List Ob}
theorem callD_obs (hm : E.mode f = .obs) (hp : pureL args = false) (h : call f args S = some (d, S)) (hd : d.pure = true) : callD E call st S f args = some (d, S) := by
  unfold callD
  rw [hm]
  dsimp only
  rw [if_neg (by rw [hp]; simp), h]
  dsimp only
  rw [hd, keptS_refl]; rfl
theorem callD_obsP (hm : E.mode f = .obs) (hp : pureL args = true) (h : call f args [] = some (d, T)) (hd : freeze T 40 d = some d') : callD E call st S f args = some (d', S) := by
  unfold callD
  rw [hm]
  dsimp only
  rw [if_pos hp, h]
  dsimp only
  rw [hd]; rfl
theorem callD_ext {J : List Ob} (hm : E.mode f = .ext) (h : call f args S = some (d, S ++ J)) : callD E call st S f args = some (d, S ++ J) := by
  unfold callD
  rw [hm]
  dsimp only
  rw [h]
  dsimp only
  rw [keptS_app]; rfl
end
abbrev strV (s : ByteArray) : D := .str s
abbrev intV (n : Nat) : D := .int .i64 n
theorem ints_pure (l : List Nat) : pureLL (l.map fun a => [intV a]) = true := by
  induction l with
  | nil => rfl
  | cons f fs ih => rw [List.map_cons, pureLL_cons, ih]; rfl
set_option maxHeartbeats 4000000 in
set_option maxRecDepth 100000 in
theorem idxS_d {n : Nat} {d : D} {l : List ByteArray} {t : ByteArray} {S : List Ob} (h : PL strV S d l) (hl : l.length ≤ 1000) (hn : l.length < n) :
    WO (dcall E (n + 1) 77 [d, .str t] S) fun r T => r = .int .i64 (fdx (fun x => t.toList == x.toList) 0 l) ∧ T = S := by
  refine wo_dcall Tryd.func77 rfl (by decide) rfl 19 rfl (fun a hal ha => ?_)
  have h0 : a[0]? = some (d) := ha 0 (by simp)
  have h1 : a[1]? = some (.str t) := ha 1 (by simp)
  clear ha
  rcases h with ⟨rfl, rfl⟩ | rfl | ⟨k, es, rfl, hk, ht, hle⟩
  · simp (maxSteps := 1000000) (disch := omega) only [push_cast, ↓wc_seq, ↓wc_block, ↓wc_scope, ↓wc_condL, ↓wc_region, ↓wr_cons, ↓wr_consgL, ↓wr_nil, ↓wo_pickL, ↓wo_callf, ↓wc_exit, ↓wc_ret, ↓wc_skip, ↓wc_wl, wo_some, wo_none, wo_ite, opQ_eq, seqQ_normal, seqQ_exit, seqQ_ret, blockQ_normal, blockQ_exit, blockQ_ret, iterQ_normal, iterQ_exit, iterQ_ret, retQ_normal, retQ_ret, retQ_exit, pickC_true, pickC_false, pickO_true, pickO_false, gstep_tt, gstep_ff, gstep_tf, gstep_ft, gstep_skip, int_bne, int_beq, decide_not, Nat.reduceAdd, Nat.reduceMul, Nat.reduceSub, Nat.reducePow, Nat.reduceLT, Nat.reduceLeDiff, Nat.reduceEqDiff, Int.reduceToNat, Int.reduceAdd, Int.reduceSub, Int.reduceNeg, Int.reduceMul, Int.reduceLT, Int.reduceLE, Int.reduceEq, le_max, ↓wo_build, ↓wo_buildSlice, evParts, ↓reduceIte, planIds, hasExt, cntFs, idxFs, clnFs, ovlFs, List.contains_cons, List.contains_nil, List.any_cons, List.any_nil, Nat.reduceBEq, setC, List.length_set, decide_eq_true_eq, decide_eq_false_iff_not, true_implies, false_implies, forall_const, reduceCtorEq, eq_self, Int.natCast_nonneg, Int.toNat_natCast, Int.ofNat_lt, D.int.injEq, Option.some.injEq, Nat.zero_add, Nat.add_zero, bne_iff_ne, bne_eq_false_iff_eq, beq_iff_eq, beq_eq_false_iff_ne, gt_iff_lt, ne_eq, not_true_eq_false, not_false_eq_true, planIds, hasExt, cntFs, idxFs, clnFs, ovlFs, List.contains_cons, List.contains_nil, List.any_cons, List.any_nil, Nat.reduceBEq, Nat.reduceMul, Nat.reduceAdd, ↓reduceIte, hal, h0, h1]
    refine wl_loop (fun _ a T => T = S ∧ a.length = 19 ∧ a[7]? = some (.int .i64 0) ∧ a[8]? = some (.int .i64 0)) 0 ?_ (by omega) ?_
    · simp (maxSteps := 1000000) (disch := omega) only [push_cast, ↓wc_seq, ↓wc_block, ↓wc_scope, ↓wc_condL, ↓wc_region, ↓wr_cons, ↓wr_consgL, ↓wr_nil, ↓wo_pickL, ↓wo_callf, ↓wc_exit, ↓wc_ret, ↓wc_skip, ↓wc_wl, wo_some, wo_none, wo_ite, opQ_eq, seqQ_normal, seqQ_exit, seqQ_ret, blockQ_normal, blockQ_exit, blockQ_ret, iterQ_normal, iterQ_exit, iterQ_ret, retQ_normal, retQ_ret, retQ_exit, pickC_true, pickC_false, pickO_true, pickO_false, gstep_tt, gstep_ff, gstep_tf, gstep_ft, gstep_skip, int_bne, int_beq, decide_not, Nat.reduceAdd, Nat.reduceMul, Nat.reduceSub, Nat.reducePow, Nat.reduceLT, Nat.reduceLeDiff, Nat.reduceEqDiff, Int.reduceToNat, Int.reduceAdd, Int.reduceSub, Int.reduceNeg, Int.reduceMul, Int.reduceLT, Int.reduceLE, Int.reduceEq, le_max, ↓wo_build, ↓wo_buildSlice, evParts, ↓reduceIte, planIds, hasExt, cntFs, idxFs, clnFs, ovlFs, List.contains_cons, List.contains_nil, List.any_cons, List.any_nil, Nat.reduceBEq, setC, List.length_set, decide_eq_true_eq, decide_eq_false_iff_not, true_implies, false_implies, forall_const, reduceCtorEq, eq_self, Int.natCast_nonneg, Int.toNat_natCast, Int.ofNat_lt, D.int.injEq, Option.some.injEq, Nat.zero_add, Nat.add_zero, bne_iff_ne, bne_eq_false_iff_eq, beq_iff_eq, beq_eq_false_iff_ne, gt_iff_lt, ne_eq, not_true_eq_false, not_false_eq_true, planIds, hasExt, cntFs, idxFs, clnFs, ovlFs, List.contains_cons, List.contains_nil, List.any_cons, List.any_nil, Nat.reduceBEq, Nat.reduceMul, Nat.reduceAdd, ↓reduceIte, hal, h0, h1]
    clear hal h0 h1 a
    rintro i a T _ ⟨rfl, hal, h7, h8⟩
    simp (maxSteps := 1000000) (disch := omega) only [push_cast, ↓wc_seq, ↓wc_block, ↓wc_scope, ↓wc_condL, ↓wc_region, ↓wr_cons, ↓wr_consgL, ↓wr_nil, ↓wo_pickL, ↓wo_callf, ↓wc_exit, ↓wc_ret, ↓wc_skip, ↓wc_wl, wo_some, wo_none, wo_ite, opQ_eq, seqQ_normal, seqQ_exit, seqQ_ret, blockQ_normal, blockQ_exit, blockQ_ret, iterQ_normal, iterQ_exit, iterQ_ret, retQ_normal, retQ_ret, retQ_exit, pickC_true, pickC_false, pickO_true, pickO_false, gstep_tt, gstep_ff, gstep_tf, gstep_ft, gstep_skip, int_bne, int_beq, decide_not, Nat.reduceAdd, Nat.reduceMul, Nat.reduceSub, Nat.reducePow, Nat.reduceLT, Nat.reduceLeDiff, Nat.reduceEqDiff, Int.reduceToNat, Int.reduceAdd, Int.reduceSub, Int.reduceNeg, Int.reduceMul, Int.reduceLT, Int.reduceLE, Int.reduceEq, le_max, ↓wo_build, ↓wo_buildSlice, evParts, ↓reduceIte, planIds, hasExt, cntFs, idxFs, clnFs, ovlFs, List.contains_cons, List.contains_nil, List.any_cons, List.any_nil, Nat.reduceBEq, setC, List.length_set, decide_eq_true_eq, decide_eq_false_iff_not, true_implies, false_implies, forall_const, reduceCtorEq, eq_self, Int.natCast_nonneg, Int.toNat_natCast, Int.ofNat_lt, D.int.injEq, Option.some.injEq, Nat.zero_add, Nat.add_zero, bne_iff_ne, bne_eq_false_iff_eq, beq_iff_eq, beq_eq_false_iff_ne, gt_iff_lt, ne_eq, not_true_eq_false, not_false_eq_true, planIds, hasExt, cntFs, idxFs, clnFs, ovlFs, List.contains_cons, List.contains_nil, List.any_cons, List.any_nil, Nat.reduceBEq, Nat.reduceMul, Nat.reduceAdd, ↓reduceIte, hal, h7, h8, Int.lt_irrefl, fdx, Tryd.f77]
  · simp (maxSteps := 1000000) (disch := omega) only [push_cast, ↓wc_seq, ↓wc_block, ↓wc_scope, ↓wc_condL, ↓wc_region, ↓wr_cons, ↓wr_consgL, ↓wr_nil, ↓wo_pickL, ↓wo_callf, ↓wc_exit, ↓wc_ret, ↓wc_skip, ↓wc_wl, wo_some, wo_none, wo_ite, opQ_eq, seqQ_normal, seqQ_exit, seqQ_ret, blockQ_normal, blockQ_exit, blockQ_ret, iterQ_normal, iterQ_exit, iterQ_ret, retQ_normal, retQ_ret, retQ_exit, pickC_true, pickC_false, pickO_true, pickO_false, gstep_tt, gstep_ff, gstep_tf, gstep_ft, gstep_skip, int_bne, int_beq, decide_not, Nat.reduceAdd, Nat.reduceMul, Nat.reduceSub, Nat.reducePow, Nat.reduceLT, Nat.reduceLeDiff, Nat.reduceEqDiff, Int.reduceToNat, Int.reduceAdd, Int.reduceSub, Int.reduceNeg, Int.reduceMul, Int.reduceLT, Int.reduceLE, Int.reduceEq, le_max, ↓wo_build, ↓wo_buildSlice, evParts, ↓reduceIte, planIds, hasExt, cntFs, idxFs, clnFs, ovlFs, List.contains_cons, List.contains_nil, List.any_cons, List.any_nil, Nat.reduceBEq, setC, List.length_set, decide_eq_true_eq, decide_eq_false_iff_not, true_implies, false_implies, forall_const, reduceCtorEq, eq_self, Int.natCast_nonneg, Int.toNat_natCast, Int.ofNat_lt, D.int.injEq, Option.some.injEq, Nat.zero_add, Nat.add_zero, bne_iff_ne, bne_eq_false_iff_eq, beq_iff_eq, beq_eq_false_iff_ne, gt_iff_lt, ne_eq, not_true_eq_false, not_false_eq_true, planIds, hasExt, cntFs, idxFs, clnFs, ovlFs, List.contains_cons, List.contains_nil, List.any_cons, List.any_nil, Nat.reduceBEq, Nat.reduceMul, Nat.reduceAdd, ↓reduceIte, hal, h0, h1, List.length_map]
    refine wl_loop (fun i a T => T = S ∧ a.length = 19 ∧ a[0]? = some (.sl 1 (l.map fun a => [strV a]) true) ∧ a[1]? = some (.str t) ∧ a[7]? = some (.int .i64 l.length) ∧ a[8]? = some (.int .i64 i) ∧ fdx (fun x => t.toList == x.toList) 0 l = fdx (fun x => t.toList == x.toList) i (l.drop i)) l.length ?_ (by omega) ?_
    · simp (maxSteps := 1000000) (disch := omega) only [push_cast, ↓wc_seq, ↓wc_block, ↓wc_scope, ↓wc_condL, ↓wc_region, ↓wr_cons, ↓wr_consgL, ↓wr_nil, ↓wo_pickL, ↓wo_callf, ↓wc_exit, ↓wc_ret, ↓wc_skip, ↓wc_wl, wo_some, wo_none, wo_ite, opQ_eq, seqQ_normal, seqQ_exit, seqQ_ret, blockQ_normal, blockQ_exit, blockQ_ret, iterQ_normal, iterQ_exit, iterQ_ret, retQ_normal, retQ_ret, retQ_exit, pickC_true, pickC_false, pickO_true, pickO_false, gstep_tt, gstep_ff, gstep_tf, gstep_ft, gstep_skip, int_bne, int_beq, decide_not, Nat.reduceAdd, Nat.reduceMul, Nat.reduceSub, Nat.reducePow, Nat.reduceLT, Nat.reduceLeDiff, Nat.reduceEqDiff, Int.reduceToNat, Int.reduceAdd, Int.reduceSub, Int.reduceNeg, Int.reduceMul, Int.reduceLT, Int.reduceLE, Int.reduceEq, le_max, ↓wo_build, ↓wo_buildSlice, evParts, ↓reduceIte, planIds, hasExt, cntFs, idxFs, clnFs, ovlFs, List.contains_cons, List.contains_nil, List.any_cons, List.any_nil, Nat.reduceBEq, setC, List.length_set, decide_eq_true_eq, decide_eq_false_iff_not, true_implies, false_implies, forall_const, reduceCtorEq, eq_self, Int.natCast_nonneg, Int.toNat_natCast, Int.ofNat_lt, D.int.injEq, Option.some.injEq, Nat.zero_add, Nat.add_zero, bne_iff_ne, bne_eq_false_iff_eq, beq_iff_eq, beq_eq_false_iff_ne, gt_iff_lt, ne_eq, not_true_eq_false, not_false_eq_true, planIds, hasExt, cntFs, idxFs, clnFs, ovlFs, List.contains_cons, List.contains_nil, List.any_cons, List.any_nil, Nat.reduceBEq, Nat.reduceMul, Nat.reduceAdd, ↓reduceIte, hal, h0, h1, List.length_map, Int.natCast_zero]
    clear hal h0 h1 a
    rintro i a T hi ⟨rfl, hal, h0, h1, h7, h8, hv⟩
    rcases Nat.lt_or_eq_of_le hi with hlt | rfl
    case inr =>
      rw [List.drop_length, fdx] at hv
      simp (maxSteps := 1000000) (disch := omega) only [push_cast, ↓wc_seq, ↓wc_block, ↓wc_scope, ↓wc_condL, ↓wc_region, ↓wr_cons, ↓wr_consgL, ↓wr_nil, ↓wo_pickL, ↓wo_callf, ↓wc_exit, ↓wc_ret, ↓wc_skip, ↓wc_wl, wo_some, wo_none, wo_ite, opQ_eq, seqQ_normal, seqQ_exit, seqQ_ret, blockQ_normal, blockQ_exit, blockQ_ret, iterQ_normal, iterQ_exit, iterQ_ret, retQ_normal, retQ_ret, retQ_exit, pickC_true, pickC_false, pickO_true, pickO_false, gstep_tt, gstep_ff, gstep_tf, gstep_ft, gstep_skip, int_bne, int_beq, decide_not, Nat.reduceAdd, Nat.reduceMul, Nat.reduceSub, Nat.reducePow, Nat.reduceLT, Nat.reduceLeDiff, Nat.reduceEqDiff, Int.reduceToNat, Int.reduceAdd, Int.reduceSub, Int.reduceNeg, Int.reduceMul, Int.reduceLT, Int.reduceLE, Int.reduceEq, le_max, ↓wo_build, ↓wo_buildSlice, evParts, ↓reduceIte, planIds, hasExt, cntFs, idxFs, clnFs, ovlFs, List.contains_cons, List.contains_nil, List.any_cons, List.any_nil, Nat.reduceBEq, setC, List.length_set, decide_eq_true_eq, decide_eq_false_iff_not, true_implies, false_implies, forall_const, reduceCtorEq, eq_self, Int.natCast_nonneg, Int.toNat_natCast, Int.ofNat_lt, D.int.injEq, Option.some.injEq, Nat.zero_add, Nat.add_zero, bne_iff_ne, bne_eq_false_iff_eq, beq_iff_eq, beq_eq_false_iff_ne, gt_iff_lt, ne_eq, not_true_eq_false, not_false_eq_true, planIds, hasExt, cntFs, idxFs, clnFs, ovlFs, List.contains_cons, List.contains_nil, List.any_cons, List.any_nil, Nat.reduceBEq, Nat.reduceMul, Nat.reduceAdd, ↓reduceIte, hal, h0, h1, h7, h8, Nat.lt_irrefl, Tryd.f77]
      exact hv.symm
    obtain ⟨q, hq⟩ : ∃ q, l[i]? = some q := ⟨l[i], by simp⟩
    rw [drop_at hq, fdx] at hv
    cases hp : (t.toList == q.toList)
    · rw [hp, if_neg (by simp)] at hv
      simp (maxSteps := 1000000) (disch := omega) only [push_cast, ↓wc_seq, ↓wc_block, ↓wc_scope, ↓wc_condL, ↓wc_region, ↓wr_cons, ↓wr_consgL, ↓wr_nil, ↓wo_pickL, ↓wo_callf, ↓wc_exit, ↓wc_ret, ↓wc_skip, ↓wc_wl, wo_some, wo_none, wo_ite, opQ_eq, seqQ_normal, seqQ_exit, seqQ_ret, blockQ_normal, blockQ_exit, blockQ_ret, iterQ_normal, iterQ_exit, iterQ_ret, retQ_normal, retQ_ret, retQ_exit, pickC_true, pickC_false, pickO_true, pickO_false, gstep_tt, gstep_ff, gstep_tf, gstep_ft, gstep_skip, int_bne, int_beq, decide_not, Nat.reduceAdd, Nat.reduceMul, Nat.reduceSub, Nat.reducePow, Nat.reduceLT, Nat.reduceLeDiff, Nat.reduceEqDiff, Int.reduceToNat, Int.reduceAdd, Int.reduceSub, Int.reduceNeg, Int.reduceMul, Int.reduceLT, Int.reduceLE, Int.reduceEq, le_max, ↓wo_build, ↓wo_buildSlice, evParts, ↓reduceIte, planIds, hasExt, cntFs, idxFs, clnFs, ovlFs, List.contains_cons, List.contains_nil, List.any_cons, List.any_nil, Nat.reduceBEq, setC, List.length_set, decide_eq_true_eq, decide_eq_false_iff_not, true_implies, false_implies, forall_const, reduceCtorEq, eq_self, Int.natCast_nonneg, Int.toNat_natCast, Int.ofNat_lt, D.int.injEq, Option.some.injEq, Nat.zero_add, Nat.add_zero, bne_iff_ne, bne_eq_false_iff_eq, beq_iff_eq, beq_eq_false_iff_ne, gt_iff_lt, ne_eq, not_true_eq_false, not_false_eq_true, planIds, hasExt, cntFs, idxFs, clnFs, ovlFs, List.contains_cons, List.contains_nil, List.any_cons, List.any_nil, Nat.reduceBEq, Nat.reduceMul, Nat.reduceAdd, ↓reduceIte, hal, h0, h1, h7, h8, hlt, hq, List.length_map, List.getElem?_map, hp, wrap_ok, Int.natCast_add, Int.natCast_one]
      exact hv
    · rw [hp, if_pos rfl] at hv
      simp (maxSteps := 1000000) (disch := omega) only [push_cast, ↓wc_seq, ↓wc_block, ↓wc_scope, ↓wc_condL, ↓wc_region, ↓wr_cons, ↓wr_consgL, ↓wr_nil, ↓wo_pickL, ↓wo_callf, ↓wc_exit, ↓wc_ret, ↓wc_skip, ↓wc_wl, wo_some, wo_none, wo_ite, opQ_eq, seqQ_normal, seqQ_exit, seqQ_ret, blockQ_normal, blockQ_exit, blockQ_ret, iterQ_normal, iterQ_exit, iterQ_ret, retQ_normal, retQ_ret, retQ_exit, pickC_true, pickC_false, pickO_true, pickO_false, gstep_tt, gstep_ff, gstep_tf, gstep_ft, gstep_skip, int_bne, int_beq, decide_not, Nat.reduceAdd, Nat.reduceMul, Nat.reduceSub, Nat.reducePow, Nat.reduceLT, Nat.reduceLeDiff, Nat.reduceEqDiff, Int.reduceToNat, Int.reduceAdd, Int.reduceSub, Int.reduceNeg, Int.reduceMul, Int.reduceLT, Int.reduceLE, Int.reduceEq, le_max, ↓wo_build, ↓wo_buildSlice, evParts, ↓reduceIte, planIds, hasExt, cntFs, idxFs, clnFs, ovlFs, List.contains_cons, List.contains_nil, List.any_cons, List.any_nil, Nat.reduceBEq, setC, List.length_set, decide_eq_true_eq, decide_eq_false_iff_not, true_implies, false_implies, forall_const, reduceCtorEq, eq_self, Int.natCast_nonneg, Int.toNat_natCast, Int.ofNat_lt, D.int.injEq, Option.some.injEq, Nat.zero_add, Nat.add_zero, bne_iff_ne, bne_eq_false_iff_eq, beq_iff_eq, beq_eq_false_iff_ne, gt_iff_lt, ne_eq, not_true_eq_false, not_false_eq_true, planIds, hasExt, cntFs, idxFs, clnFs, ovlFs, List.contains_cons, List.contains_nil, List.any_cons, List.any_nil, Nat.reduceBEq, Nat.reduceMul, Nat.reduceAdd, ↓reduceIte, hal, h0, h1, h7, h8, hlt, hq, List.length_map, List.getElem?_map, hp, Tryd.f77]
      exact hv.symm
  · simp (maxSteps := 1000000) (disch := omega) only [push_cast, ↓wc_seq, ↓wc_block, ↓wc_scope, ↓wc_condL, ↓wc_region, ↓wr_cons, ↓wr_consgL, ↓wr_nil, ↓wo_pickL, ↓wo_callf, ↓wc_exit, ↓wc_ret, ↓wc_skip, ↓wc_wl, wo_some, wo_none, wo_ite, opQ_eq, seqQ_normal, seqQ_exit, seqQ_ret, blockQ_normal, blockQ_exit, blockQ_ret, iterQ_normal, iterQ_exit, iterQ_ret, retQ_normal, retQ_ret, retQ_exit, pickC_true, pickC_false, pickO_true, pickO_false, gstep_tt, gstep_ff, gstep_tf, gstep_ft, gstep_skip, int_bne, int_beq, decide_not, Nat.reduceAdd, Nat.reduceMul, Nat.reduceSub, Nat.reducePow, Nat.reduceLT, Nat.reduceLeDiff, Nat.reduceEqDiff, Int.reduceToNat, Int.reduceAdd, Int.reduceSub, Int.reduceNeg, Int.reduceMul, Int.reduceLT, Int.reduceLE, Int.reduceEq, le_max, ↓wo_build, ↓wo_buildSlice, evParts, ↓reduceIte, planIds, hasExt, cntFs, idxFs, clnFs, ovlFs, List.contains_cons, List.contains_nil, List.any_cons, List.any_nil, Nat.reduceBEq, setC, List.length_set, decide_eq_true_eq, decide_eq_false_iff_not, true_implies, false_implies, forall_const, reduceCtorEq, eq_self, Int.natCast_nonneg, Int.toNat_natCast, Int.ofNat_lt, D.int.injEq, Option.some.injEq, Nat.zero_add, Nat.add_zero, bne_iff_ne, bne_eq_false_iff_eq, beq_iff_eq, beq_eq_false_iff_ne, gt_iff_lt, ne_eq, not_true_eq_false, not_false_eq_true, planIds, hasExt, cntFs, idxFs, clnFs, ovlFs, List.contains_cons, List.contains_nil, List.any_cons, List.any_nil, Nat.reduceBEq, Nat.reduceMul, Nat.reduceAdd, ↓reduceIte, hal, h0, h1]
    refine wl_loop (fun i a T => T = S ∧ a.length = 19 ∧ a[0]? = some (.os k 0 l.length false) ∧ a[1]? = some (.str t) ∧ a[7]? = some (.int .i64 l.length) ∧ a[8]? = some (.int .i64 i) ∧ fdx (fun x => t.toList == x.toList) 0 l = fdx (fun x => t.toList == x.toList) i (l.drop i)) l.length ?_ (by omega) ?_
    · simp (maxSteps := 1000000) (disch := omega) only [push_cast, ↓wc_seq, ↓wc_block, ↓wc_scope, ↓wc_condL, ↓wc_region, ↓wr_cons, ↓wr_consgL, ↓wr_nil, ↓wo_pickL, ↓wo_callf, ↓wc_exit, ↓wc_ret, ↓wc_skip, ↓wc_wl, wo_some, wo_none, wo_ite, opQ_eq, seqQ_normal, seqQ_exit, seqQ_ret, blockQ_normal, blockQ_exit, blockQ_ret, iterQ_normal, iterQ_exit, iterQ_ret, retQ_normal, retQ_ret, retQ_exit, pickC_true, pickC_false, pickO_true, pickO_false, gstep_tt, gstep_ff, gstep_tf, gstep_ft, gstep_skip, int_bne, int_beq, decide_not, Nat.reduceAdd, Nat.reduceMul, Nat.reduceSub, Nat.reducePow, Nat.reduceLT, Nat.reduceLeDiff, Nat.reduceEqDiff, Int.reduceToNat, Int.reduceAdd, Int.reduceSub, Int.reduceNeg, Int.reduceMul, Int.reduceLT, Int.reduceLE, Int.reduceEq, le_max, ↓wo_build, ↓wo_buildSlice, evParts, ↓reduceIte, planIds, hasExt, cntFs, idxFs, clnFs, ovlFs, List.contains_cons, List.contains_nil, List.any_cons, List.any_nil, Nat.reduceBEq, setC, List.length_set, decide_eq_true_eq, decide_eq_false_iff_not, true_implies, false_implies, forall_const, reduceCtorEq, eq_self, Int.natCast_nonneg, Int.toNat_natCast, Int.ofNat_lt, D.int.injEq, Option.some.injEq, Nat.zero_add, Nat.add_zero, bne_iff_ne, bne_eq_false_iff_eq, beq_iff_eq, beq_eq_false_iff_ne, gt_iff_lt, ne_eq, not_true_eq_false, not_false_eq_true, planIds, hasExt, cntFs, idxFs, clnFs, ovlFs, List.contains_cons, List.contains_nil, List.any_cons, List.any_nil, Nat.reduceBEq, Nat.reduceMul, Nat.reduceAdd, ↓reduceIte, hal, h0, h1, List.length_map, Int.natCast_zero]
    clear hal h0 h1 a
    rintro i a T hi ⟨rfl, hal, h0, h1, h7, h8, hv⟩
    rcases Nat.lt_or_eq_of_le hi with hlt | rfl
    case inr =>
      rw [List.drop_length, fdx] at hv
      simp (maxSteps := 1000000) (disch := omega) only [push_cast, ↓wc_seq, ↓wc_block, ↓wc_scope, ↓wc_condL, ↓wc_region, ↓wr_cons, ↓wr_consgL, ↓wr_nil, ↓wo_pickL, ↓wo_callf, ↓wc_exit, ↓wc_ret, ↓wc_skip, ↓wc_wl, wo_some, wo_none, wo_ite, opQ_eq, seqQ_normal, seqQ_exit, seqQ_ret, blockQ_normal, blockQ_exit, blockQ_ret, iterQ_normal, iterQ_exit, iterQ_ret, retQ_normal, retQ_ret, retQ_exit, pickC_true, pickC_false, pickO_true, pickO_false, gstep_tt, gstep_ff, gstep_tf, gstep_ft, gstep_skip, int_bne, int_beq, decide_not, Nat.reduceAdd, Nat.reduceMul, Nat.reduceSub, Nat.reducePow, Nat.reduceLT, Nat.reduceLeDiff, Nat.reduceEqDiff, Int.reduceToNat, Int.reduceAdd, Int.reduceSub, Int.reduceNeg, Int.reduceMul, Int.reduceLT, Int.reduceLE, Int.reduceEq, le_max, ↓wo_build, ↓wo_buildSlice, evParts, ↓reduceIte, planIds, hasExt, cntFs, idxFs, clnFs, ovlFs, List.contains_cons, List.contains_nil, List.any_cons, List.any_nil, Nat.reduceBEq, setC, List.length_set, decide_eq_true_eq, decide_eq_false_iff_not, true_implies, false_implies, forall_const, reduceCtorEq, eq_self, Int.natCast_nonneg, Int.toNat_natCast, Int.ofNat_lt, D.int.injEq, Option.some.injEq, Nat.zero_add, Nat.add_zero, bne_iff_ne, bne_eq_false_iff_eq, beq_iff_eq, beq_eq_false_iff_ne, gt_iff_lt, ne_eq, not_true_eq_false, not_false_eq_true, planIds, hasExt, cntFs, idxFs, clnFs, ovlFs, List.contains_cons, List.contains_nil, List.any_cons, List.any_nil, Nat.reduceBEq, Nat.reduceMul, Nat.reduceAdd, ↓reduceIte, hal, h0, h1, h7, h8, Nat.lt_irrefl, Tryd.f77]
      exact hv.symm
    obtain ⟨q, hq⟩ : ∃ q, l[i]? = some q := ⟨l[i], by simp⟩
    have he := take_at ht hq rfl
    rw [drop_at hq, fdx] at hv
    cases hp : (t.toList == q.toList)
    · rw [hp, if_neg (by simp)] at hv
      simp (maxSteps := 1000000) (disch := omega) only [push_cast, ↓wc_seq, ↓wc_block, ↓wc_scope, ↓wc_condL, ↓wc_region, ↓wr_cons, ↓wr_consgL, ↓wr_nil, ↓wo_pickL, ↓wo_callf, ↓wc_exit, ↓wc_ret, ↓wc_skip, ↓wc_wl, wo_some, wo_none, wo_ite, opQ_eq, seqQ_normal, seqQ_exit, seqQ_ret, blockQ_normal, blockQ_exit, blockQ_ret, iterQ_normal, iterQ_exit, iterQ_ret, retQ_normal, retQ_ret, retQ_exit, pickC_true, pickC_false, pickO_true, pickO_false, gstep_tt, gstep_ff, gstep_tf, gstep_ft, gstep_skip, int_bne, int_beq, decide_not, Nat.reduceAdd, Nat.reduceMul, Nat.reduceSub, Nat.reducePow, Nat.reduceLT, Nat.reduceLeDiff, Nat.reduceEqDiff, Int.reduceToNat, Int.reduceAdd, Int.reduceSub, Int.reduceNeg, Int.reduceMul, Int.reduceLT, Int.reduceLE, Int.reduceEq, le_max, ↓wo_build, ↓wo_buildSlice, evParts, ↓reduceIte, planIds, hasExt, cntFs, idxFs, clnFs, ovlFs, List.contains_cons, List.contains_nil, List.any_cons, List.any_nil, Nat.reduceBEq, setC, List.length_set, decide_eq_true_eq, decide_eq_false_iff_not, true_implies, false_implies, forall_const, reduceCtorEq, eq_self, Int.natCast_nonneg, Int.toNat_natCast, Int.ofNat_lt, D.int.injEq, Option.some.injEq, Nat.zero_add, Nat.add_zero, bne_iff_ne, bne_eq_false_iff_eq, beq_iff_eq, beq_eq_false_iff_ne, gt_iff_lt, ne_eq, not_true_eq_false, not_false_eq_true, planIds, hasExt, cntFs, idxFs, clnFs, ovlFs, List.contains_cons, List.contains_nil, List.any_cons, List.any_nil, Nat.reduceBEq, Nat.reduceMul, Nat.reduceAdd, ↓reduceIte, hal, h0, h1, h7, h8, hlt, hq, hk, he, hp, wrap_ok, Int.natCast_add, Int.natCast_one]
      exact hv
    · rw [hp, if_pos rfl] at hv
      simp (maxSteps := 1000000) (disch := omega) only [push_cast, ↓wc_seq, ↓wc_block, ↓wc_scope, ↓wc_condL, ↓wc_region, ↓wr_cons, ↓wr_consgL, ↓wr_nil, ↓wo_pickL, ↓wo_callf, ↓wc_exit, ↓wc_ret, ↓wc_skip, ↓wc_wl, wo_some, wo_none, wo_ite, opQ_eq, seqQ_normal, seqQ_exit, seqQ_ret, blockQ_normal, blockQ_exit, blockQ_ret, iterQ_normal, iterQ_exit, iterQ_ret, retQ_normal, retQ_ret, retQ_exit, pickC_true, pickC_false, pickO_true, pickO_false, gstep_tt, gstep_ff, gstep_tf, gstep_ft, gstep_skip, int_bne, int_beq, decide_not, Nat.reduceAdd, Nat.reduceMul, Nat.reduceSub, Nat.reducePow, Nat.reduceLT, Nat.reduceLeDiff, Nat.reduceEqDiff, Int.reduceToNat, Int.reduceAdd, Int.reduceSub, Int.reduceNeg, Int.reduceMul, Int.reduceLT, Int.reduceLE, Int.reduceEq, le_max, ↓wo_build, ↓wo_buildSlice, evParts, ↓reduceIte, planIds, hasExt, cntFs, idxFs, clnFs, ovlFs, List.contains_cons, List.contains_nil, List.any_cons, List.any_nil, Nat.reduceBEq, setC, List.length_set, decide_eq_true_eq, decide_eq_false_iff_not, true_implies, false_implies, forall_const, reduceCtorEq, eq_self, Int.natCast_nonneg, Int.toNat_natCast, Int.ofNat_lt, D.int.injEq, Option.some.injEq, Nat.zero_add, Nat.add_zero, bne_iff_ne, bne_eq_false_iff_eq, beq_iff_eq, beq_eq_false_iff_ne, gt_iff_lt, ne_eq, not_true_eq_false, not_false_eq_true, planIds, hasExt, cntFs, idxFs, clnFs, ovlFs, List.contains_cons, List.contains_nil, List.any_cons, List.any_nil, Nat.reduceBEq, Nat.reduceMul, Nat.reduceAdd, ↓reduceIte, hal, h0, h1, h7, h8, hlt, hq, hk, he, hp, Tryd.f77]
      exact hv.symm
theorem contS_d {n : Nat} {d : D} {l : List ByteArray} {t : ByteArray} {S : List Ob} (h : PL strV S d l) (hl : l.length ≤ 1000) (hn : l.length + 1 < n) :
    WO (dcall E (n + 1) 65 [d, .str t] S) fun r T => r = .bool (l.any fun x => t.toList == x.toList) ∧ T = S := by
  obtain ⟨m, rfl⟩ : ∃ m, n = m + 1 := ⟨n - 1, by omega⟩
  have ci : ∀ st, callD E (dcall E (m + 1)) st S 77 [d, .str t] = some (.int .i64 (fdx (fun x => t.toList == x.toList) 0 l), S) := fun st => by
    by_cases hp : pureL [d, .str t] = true
    · have h' : PL strV [] d l := by
        rcases h with h | h | ⟨k, es, rfl, -, -, -⟩
        · exact .inl h
        · exact .inr (.inl h)
        · simp [pureL_cons, D.pure] at hp
      obtain ⟨_, T, ho, rfl, rfl⟩ := idxS_d (n := m) (t := t) h' hl (by omega)
      exact callD_obsP rfl hp ho rfl
    · obtain ⟨_, T, ho, rfl, rfl⟩ := idxS_d (n := m) (t := t) h hl (by omega)
      exact callD_obs rfl (by simpa using hp) ho rfl
  have hf := fdx_any (fun x => t.toList == x.toList) l 0
  refine wo_dcall Tryd.func65 rfl (by decide) rfl 9 rfl (fun a hal ha => ?_)
  have h0 : a[0]? = some (d) := ha 0 (by simp)
  have h1 : a[1]? = some (.str t) := ha 1 (by simp)
  clear ha
  simp (maxSteps := 1000000) (disch := omega) only [push_cast, ↓wc_seq, ↓wc_block, ↓wc_scope, ↓wc_condL, ↓wc_region, ↓wr_cons, ↓wr_consgL, ↓wr_nil, ↓wo_pickL, ↓wo_callf, ↓wc_exit, ↓wc_ret, ↓wc_skip, ↓wc_wl, wo_some, wo_none, wo_ite, opQ_eq, seqQ_normal, seqQ_exit, seqQ_ret, blockQ_normal, blockQ_exit, blockQ_ret, iterQ_normal, iterQ_exit, iterQ_ret, retQ_normal, retQ_ret, retQ_exit, pickC_true, pickC_false, pickO_true, pickO_false, gstep_tt, gstep_ff, gstep_tf, gstep_ft, gstep_skip, int_bne, int_beq, decide_not, Nat.reduceAdd, Nat.reduceMul, Nat.reduceSub, Nat.reducePow, Nat.reduceLT, Nat.reduceLeDiff, Nat.reduceEqDiff, Int.reduceToNat, Int.reduceAdd, Int.reduceSub, Int.reduceNeg, Int.reduceMul, Int.reduceLT, Int.reduceLE, Int.reduceEq, le_max, ↓wo_build, ↓wo_buildSlice, evParts, ↓reduceIte, planIds, hasExt, cntFs, idxFs, clnFs, ovlFs, List.contains_cons, List.contains_nil, List.any_cons, List.any_nil, Nat.reduceBEq, setC, List.length_set, decide_eq_true_eq, decide_eq_false_iff_not, true_implies, false_implies, forall_const, reduceCtorEq, eq_self, Int.natCast_nonneg, Int.toNat_natCast, Int.ofNat_lt, D.int.injEq, Option.some.injEq, Nat.zero_add, Nat.add_zero, bne_iff_ne, bne_eq_false_iff_eq, beq_iff_eq, beq_eq_false_iff_ne, gt_iff_lt, ne_eq, not_true_eq_false, not_false_eq_true, planIds, hasExt, cntFs, idxFs, clnFs, ovlFs, List.contains_cons, List.contains_nil, List.any_cons, List.any_nil, Nat.reduceBEq, Nat.reduceMul, Nat.reduceAdd, ↓reduceIte, hal, h0, h1, ci, ge_iff_le, hf, Tryd.f65]
theorem contS_c {n : Nat} {d : D} {l : List ByteArray} {t : ByteArray} {S : List Ob} (h : PL strV S d l) (hl : l.length ≤ 1000) (hn : l.length + 3 < n) (st : Bool) :
    callD E (dcall E n) st S 65 [d, .str t] = some (.bool (l.any fun x => t.toList == x.toList), S) := by
  obtain ⟨m, rfl⟩ : ∃ m, n = m + 1 := ⟨n - 1, by omega⟩
  by_cases hp : pureL [d, .str t] = true
  · have h' : PL strV [] d l := by
      rcases h with h | h | ⟨k, es, rfl, -, -, -⟩
      · exact .inl h
      · exact .inr (.inl h)
      · simp [pureL_cons, D.pure] at hp
    obtain ⟨_, T, ho, rfl, rfl⟩ := contS_d (n := m) (t := t) h' hl (by omega)
    exact callD_obsP rfl hp ho rfl
  · obtain ⟨_, T, ho, rfl, rfl⟩ := contS_d (n := m) (t := t) h hl (by omega)
    exact callD_obs rfl (by simpa using hp) ho rfl
set_option maxHeartbeats 4000000 in
set_option maxRecDepth 100000 in
theorem clone_c {n k m : Nat} {l : List Nat} {es : List (List D)} {S : List Ob} (hn : 1 ≤ n) (hk : S[k]? = some (.row 1 es)) (hm : l.length = m + 1) (hl : l.length ≤ 1000) (ht : es.take l.length = l.map fun a => [intV a]) (hle : l.length ≤ es.length) (st : Bool) :
    callD E (dcall E n) st S 66 [.os k 0 l.length false] = some (.os S.length 0 l.length false, S ++ [.row 1 (l.map fun a => [intV a])]) := by
  obtain ⟨n, rfl⟩ : ∃ q, n = q + 1 := ⟨n - 1, by omega⟩
  have : WO (dcall E (n + 1) 66 [.os k 0 l.length false] S) fun r T => r = .os S.length 0 l.length false ∧ T = S ++ [.row 1 (l.map fun a => [intV a])] := by
    refine wo_dcall Tryd.func66 rfl (by decide) rfl 8 rfl (fun a hal ha => ?_)
    have h0 : a[0]? = some (.os k 0 l.length false) := ha 0 (by simp)
    clear ha
    have happ : dAppend Tryd.prog S 54 54 (.sl 1 [] true) (.os k 0 l.length false) = some (.os S.length 0 l.length false, S ++ [.row 1 (l.map fun a => [intV a])]) := by
      have h1 : elemT Tryd.prog 54 = some 3 := by kernel_rfl
      have h2 : sizeT Tryd.prog 3 = some 1 := by kernel_rfl
      have h3 : zeroT Tryd.prog 3 = some (.int .i64 0) := by kernel_rfl
      have h5 : bytesT Tryd.prog 3 = 8 := by kernel_rfl
      have hlen : (l.map fun a => [intV a]).length = m + 1 := by simp [hm]
      have hmx : (m + 1 ≤ maxLen) = True := le_max (by omega)
      have hb : ((m + 1) * 8 ≤ 140737488355328) = True := eq_true (by omega)
      rw [hm] at ht hle ⊢
      generalize (l.map fun a => [intV a]) = ls at *
      simp only [dAppend, if_true, h1, h2, h3, h5, D.cells, List.length_cons, List.length_nil, Nat.zero_add, srcOf, hk, hle, and_self, List.drop_zero, ht, hlen, Nat.succ_ne_zero, if_false, hmx, hb, ↓reduceIte, List.nil_append]
    have heq : dEq Tryd.prog 10000 54 (.os k 0 l.length false) .nils = some false := by
      rw [show (10000 : Nat) = 9999 + 1 from rfl]
      simp only [push_cast, dEq]
    simp (maxSteps := 1000000) (disch := omega) only [push_cast, ↓wc_seq, ↓wc_block, ↓wc_scope, ↓wc_condL, ↓wc_region, ↓wr_cons, ↓wr_consgL, ↓wr_nil, ↓wo_pickL, ↓wo_callf, ↓wc_exit, ↓wc_ret, ↓wc_skip, ↓wc_wl, wo_some, wo_none, wo_ite, opQ_eq, seqQ_normal, seqQ_exit, seqQ_ret, blockQ_normal, blockQ_exit, blockQ_ret, iterQ_normal, iterQ_exit, iterQ_ret, retQ_normal, retQ_ret, retQ_exit, pickC_true, pickC_false, pickO_true, pickO_false, gstep_tt, gstep_ff, gstep_tf, gstep_ft, gstep_skip, int_bne, int_beq, decide_not, Nat.reduceAdd, Nat.reduceMul, Nat.reduceSub, Nat.reducePow, Nat.reduceLT, Nat.reduceLeDiff, Nat.reduceEqDiff, Int.reduceToNat, Int.reduceAdd, Int.reduceSub, Int.reduceNeg, Int.reduceMul, Int.reduceLT, Int.reduceLE, Int.reduceEq, le_max, ↓wo_build, ↓wo_buildSlice, evParts, ↓reduceIte, planIds, hasExt, cntFs, idxFs, clnFs, ovlFs, List.contains_cons, List.contains_nil, List.any_cons, List.any_nil, Nat.reduceBEq, setC, List.length_set, decide_eq_true_eq, decide_eq_false_iff_not, true_implies, false_implies, forall_const, reduceCtorEq, eq_self, Int.natCast_nonneg, Int.toNat_natCast, Int.ofNat_lt, D.int.injEq, Option.some.injEq, Nat.zero_add, Nat.add_zero, bne_iff_ne, bne_eq_false_iff_eq, beq_iff_eq, beq_eq_false_iff_ne, gt_iff_lt, ne_eq, not_true_eq_false, not_false_eq_true, planIds, hasExt, cntFs, idxFs, clnFs, ovlFs, List.contains_cons, List.contains_nil, List.any_cons, List.any_nil, Nat.reduceBEq, Nat.reduceMul, Nat.reduceAdd, ↓reduceIte, hal, h0, happ, heq, chunks, Tryd.f66]
  obtain ⟨r, T, ho, rfl, rfl⟩ := this
  exact callD_ext rfl ho

/-! What is found, in plain words. -/
def tAt (segs : List Sgm) (i : Nat) : ByteArray := match segs[i]? with | some s => s.t | none => emp
def stopsL (fr : ByteArray) (segs : List Sgm) (p : List Nat) : List ByteArray := fr :: p.map (tAt segs)
/-- May segment i continue a journey? -/
def lastFit (l : List Cnn) (segs : List Sgm) (p : List Nat) (s : Sgm) : Bool :=
  match p with
  | [] => true
  | _ :: _ => match p[p.length - 1]? with
    | some j => match segs[j]? with
      | some sj => fitB l sj s
      | none => false
    | none => false
def cand (l : List Cnn) (segs : List Sgm) (fr : ByteArray) (p : List Nat) (i : Nat) : Bool :=
  match segs[i]? with
  | none => false
  | some s => (s.f.toList == (((stopsL fr segs p)[p.length]?).getD emp).toList) && !((stopsL fr segs p).any fun x => s.t.toList == x.toList) && lastFit l segs p s
def dfs (l : List Cnn) (segs : List Sgm) (fr to : ByteArray) : Nat → List Nat → List (List Nat)
  | 0, _ => []
  | m + 1, p => (List.range segs.length).flatMap fun i => if cand l segs fr p i = true then (if ((tAt segs i).toList == to.toList) = true then [p ++ [i]] else dfs l segs fr to m (p ++ [i])) else []
/-- What is found at the first i segments. -/
def pre (l : List Cnn) (segs : List Sgm) (fr to : ByteArray) (m : Nat) (p : List Nat) (i : Nat) : List (List Nat) :=
  (List.range i).flatMap fun i => if cand l segs fr p i = true then (if ((tAt segs i).toList == to.toList) = true then [p ++ [i]] else dfs l segs fr to m (p ++ [i])) else []
theorem pre_succ {l segs fr to m p i} : pre l segs fr to m p (i + 1) = pre l segs fr to m p i ++ (if cand l segs fr p i = true then (if ((tAt segs i).toList == to.toList) = true then [p ++ [i]] else dfs l segs fr to m (p ++ [i])) else []) := by
  unfold pre
  rw [List.range_succ, List.flatMap_append]
  simp
theorem dfs_pre {l segs fr to m p} : dfs l segs fr to (m + 1) p = pre l segs fr to m p segs.length := rfl
theorem take_full {α : Type} {a b c : List α} {k : Nat} (h : ((a ++ b).take k).length = k) : (a ++ (b ++ c)).take k = (a ++ b).take k := by
  have hk : k ≤ (a ++ b).length := by
    rw [List.length_take] at h; omega
  rw [← List.append_assoc, List.take_append_of_le_length hk]
theorem take_more {α : Type} {a b c : List α} {k : Nat} : ((a ++ b).take k ++ c).take k = (a ++ (b ++ c)).take k := by
  rw [← List.append_assoc, List.take_append, List.take_append (l₁ := a ++ b), List.take_take, Nat.min_self, List.length_take]
  by_cases h : k ≤ (a ++ b).length
  · rw [Nat.min_eq_left h]
    have : k - (a ++ b).length = 0 := by omega
    rw [this, Nat.sub_self]
  · rw [Nat.min_eq_right (by omega)]

/-! The state. -/
abbrev oRow (q : Nat × List Nat) : List D := [.os q.1 0 q.2.length false]
structure Zs where
  dp : D
  ds : D
  dO : D
  o : List (Nat × List Nat)
def Zs.outs (z : Zs) : List (List Nat) := z.o.map (·.2)
def mine (X : Nat) (z : Zs) (j : Nat) : Prop := j = X ∨ own z.dp = some j ∨ own z.ds = some j ∨ own z.dO = some j
def xRow (lD sgD : D) (to : ByteArray) (most : Nat) (dO ds dp : D) : Ob := .row 7 [[lD, sgD, .str to, .int .i64 most, dO, ds, dp]]
structure SGood (lD sgD : D) (to : ByteArray) (most X : Nat) (st : List ByteArray) (S : List Ob) (p : List Nat) (z : Zs) : Prop where
  row : S[X]? = some (xRow lD sgD to most z.dO z.ds z.dp)
  path : PL intV S z.dp p
  stop : PL strV S z.ds st
  out : GL 1 oRow S z.dO z.o
  sh : (z.dp = .nils ∧ p = [] ∧ ∃ fr, z.ds = .sl 1 [[.str fr]] true ∧ st = [fr]) ∨ ∃ kp ks, z.dp = .os kp 0 p.length false ∧ z.ds = .os ks 0 st.length false
  ne1 : own z.dp ≠ some X
  ne2 : own z.ds ≠ some X
  ne3 : own z.dO ≠ some X
  ne4 : ∀ j, own z.dp = some j → own z.ds ≠ some j
  ne5 : ∀ j, own z.dO = some j → own z.dp ≠ some j ∧ own z.ds ≠ some j
  rows : ∀ q ∈ z.o, ¬ mine X z q.1 ∧ S[q.1]? = some (.row 1 (q.2.map fun a => [intV a]))
/-- From one state to another: what is not the search's lies there still. -/
structure StepR (X : Nat) (S : List Ob) (z : Zs) (S' : List Ob) (z' : Zs) : Prop where
  len : S.length ≤ S'.length
  old : ∀ j o, ¬ mine X z j → S[j]? = some o → S'[j]? = some o
  new : ∀ j, mine X z' j → mine X z j ∨ S.length ≤ j
theorem StepR.refl {X S z} : StepR X S z S z := ⟨Nat.le_refl _, fun _ _ _ h => h, fun _ h => .inl h⟩
theorem StepR.trans {X S z S' z' S'' z''} (h : StepR X S z S' z') (g : StepR X S' z' S'' z'') : StepR X S z S'' z'' where
  len := Nat.le_trans h.len g.len
  old := fun j o hj ho => by
    have hlt : j < S.length := (List.getElem?_eq_some_iff.1 ho).1
    refine g.old j o (fun hm => ?_) (h.old j o hj ho)
    rcases h.new j hm with h1 | h1
    · exact hj h1
    · omega
  new := fun j hj => by
    rcases g.new j hj with h1 | h1
    · exact h.new j h1
    · exact .inr (Nat.le_trans h.len h1)
theorem gl_own {α : Type} {sz : Nat} {enc : α → List D} {S : List Ob} {d : D} {l : List α} (h : GL sz enc S d l) {j : Nat} (hj : own d = some j) : j < S.length := by
  rcases h with ⟨rfl, -⟩ | ⟨k, rfl, hk⟩
  · cases hj
  · cases hj; exact (List.getElem?_eq_some_iff.1 hk).1
section
variable {lD sgD : D} {to : ByteArray} {most X : Nat} {st : List ByteArray} {S : List Ob} {p : List Nat} {z : Zs}
theorem SGood.lt (h : SGood lD sgD to most X st S p z) {j : Nat} (hj : mine X z j) : j < S.length := by
  rcases hj with rfl | hj | hj | hj
  · exact (List.getElem?_eq_some_iff.1 h.row).1
  · exact h.path.lt hj
  · exact h.stop.lt hj
  · exact gl_own h.out hj
theorem SGood.push (h : SGood lD sgD to most X st S p z) (o : Ob) : SGood lD sgD to most X st (S ++ [o]) p z where
  row := get_old h.row
  path := h.path.keep fun _ _ _ h => get_old h
  stop := h.stop.keep fun _ _ _ h => get_old h
  out := h.out.push o
  sh := h.sh
  ne1 := h.ne1
  ne2 := h.ne2
  ne3 := h.ne3
  ne4 := h.ne4
  ne5 := h.ne5
  rows := fun q hq => ⟨(h.rows q hq).1, get_old (h.rows q hq).2⟩
theorem StepR.push {S0 : List Ob} {z0 : Zs} (h : StepR X S0 z0 S z) (o : Ob) : StepR X S0 z0 (S ++ [o]) z where
  len := by rw [List.length_append]; exact Nat.le_trans h.len (Nat.le_add_right _ _)
  old := fun j o hj ho => get_old (h.old j o hj ho)
  new := h.new
/-- The journey is continued. -/
theorem SGood.go (h : SGood lD sgD to most X st S p z) (hp : p.length ≤ 1000) (hs : st.length ≤ 1000) (i : Nat) (t : ByteArray) :
    ∃ kp W1 ks W2, dAppend Tryd.prog S 54 54 z.dp (.sl 1 [[intV i]] true) = some (.os kp 0 (p.length + 1) false, W1) ∧ dAppend Tryd.prog W1 72 72 z.ds (.sl 1 [[strV t]] true) = some (.os ks 0 (st.length + 1) false, W2) ∧
      W1[X]? = some (xRow lD sgD to most z.dO z.ds z.dp) ∧ W2[X]? = some (xRow lD sgD to most z.dO z.ds z.dp) ∧ (∀ q o, ¬ mine X z q → S[q]? = some o → W1[q]? = some o ∧ W2[q]? = some o) ∧
      SGood lD sgD to most X (st ++ [t]) (W2.set X (xRow lD sgD to most z.dO (.os ks 0 (st.length + 1) false) (.os kp 0 (p.length + 1) false))) (p ++ [i]) ⟨.os kp 0 (p.length + 1) false, .os ks 0 (st.length + 1) false, z.dO, z.o⟩ ∧
      StepR X S z (W2.set X (xRow lD sgD to most z.dO (.os ks 0 (st.length + 1) false) (.os kp 0 (p.length + 1) false))) ⟨.os kp 0 (p.length + 1) false, .os ks 0 (st.length + 1) false, z.dO, z.o⟩ := by
  obtain ⟨kp, W1, a1, b1, c1, e1, f1⟩ := app_pl (t := 54) (e := 3) (z := .int .i64 0) (by kernel_rfl) (by kernel_rfl) (by kernel_rfl) rfl (Nat.le_of_ble_eq_true (by kernel_rfl)) h.path (by omega) i
  have hstop : PL strV W1 z.ds st := h.stop.keep fun k o hk ho => f1 k o (fun e => h.ne4 k e hk) ho
  obtain ⟨ks, W2, a2, b2, c2, e2, f2⟩ := app_pl (t := 72) (e := 9) (z := .str (ByteArray.mk #[])) (by kernel_rfl) (by kernel_rfl) (by kernel_rfl) rfl (Nat.le_of_ble_eq_true (by kernel_rfl)) hstop (by omega) t
  have hX1 : W1[X]? = some (xRow lD sgD to most z.dO z.ds z.dp) := f1 X _ h.ne1 h.row
  have hX2 : W2[X]? = some (xRow lD sgD to most z.dO z.ds z.dp) := f2 X _ h.ne2 hX1
  have hXl : X < S.length := (List.getElem?_eq_some_iff.1 h.row).1
  -- what was not the path's, and what was not the stops'
  have k1 : ∀ q o, own z.dp ≠ some q → own z.ds ≠ some q → S[q]? = some o → W2[q]? = some o := fun q o h1 h2 ho => f2 q o h2 (f1 q o h1 ho)
  have kpl : kp < W1.length := b1.lt rfl
  have hkX : kp ≠ X := by
    rintro rfl
    rcases c1 with e | e
    · exact h.ne1 e
    · omega
  have hsX : ks ≠ X := by
    rintro rfl
    rcases c2 with e | e
    · exact h.ne2 e
    · omega
  have hks : kp ≠ ks := by
    rintro rfl
    rcases c2 with e | e
    · rcases c1 with e' | e'
      · exact h.ne4 _ e' e
      · have := h.stop.lt e; omega
    · omega
  have hO : ∀ j, own z.dO = some j → j < S.length ∧ kp ≠ j ∧ ks ≠ j := fun j hj => by
    have hl := gl_own h.out hj
    obtain ⟨n1, n2⟩ := h.ne5 j hj
    refine ⟨hl, ?_, ?_⟩
    · rintro rfl
      rcases c1 with e | e
      · exact n1 e
      · omega
    · rintro rfl
      rcases c2 with e | e
      · exact n2 e
      · omega
  have hb1 : PL intV W2 (.os kp 0 (p.length + 1) false) (p ++ [i]) := b1.keep fun k o hk ho => by
    cases hk
    refine f2 _ o (fun e => ?_) ho
    rcases c1 with e' | e'
    · exact h.ne4 _ e' e
    · have := h.stop.lt e; omega
  have hXne : ∀ {α : Type} {v : α → D} {d : D} {l : List α}, own d ≠ some X → PL v W2 d l → PL v (W2.set X (xRow lD sgD to most z.dO (.os ks 0 (st.length + 1) false) (.os kp 0 (p.length + 1) false))) d l := fun hn hh => hh.keep fun k o hk ho => by
    have : X ≠ k := fun e => hn (by rw [e]; exact hk)
    rw [List.getElem?_set_ne this]; exact ho
  have hXl2 : X < W2.length := (List.getElem?_eq_some_iff.1 hX2).1
  refine ⟨kp, W1, ks, W2, a1, a2, hX1, hX2, fun q o hq ho => ?_, ?_, ?_⟩
  · have hq1 : own z.dp ≠ some q := fun e => hq (.inr (.inl e))
    have hq2 : own z.ds ≠ some q := fun e => hq (.inr (.inr (.inl e)))
    exact ⟨f1 q o hq1 ho, k1 q o hq1 hq2 ho⟩
  · refine ⟨List.getElem?_set_self hXl2, hXne (by simpa [own] using hkX) hb1, hXne (by simpa [own] using hsX) b2, ?_, .inr ⟨kp, ks, by simp, by simp⟩, by simpa [own] using hkX, by simpa [own] using hsX, h.ne3, fun j hj => by cases hj; simpa [own] using hks.symm, fun j hj => ⟨by simpa [own] using (hO j hj).2.1, by simpa [own] using (hO j hj).2.2⟩, fun q hq => ?_⟩
    · rcases h.out with ⟨h1, h2⟩ | ⟨k, h1, h2⟩
      · exact .inl ⟨h1, h2⟩
      · refine .inr ⟨k, h1, ?_⟩
        have hok : own z.dO = some k := by rw [h1]; rfl
        have : X ≠ k := fun e => h.ne3 (by rw [e]; exact hok)
        rw [List.getElem?_set_ne this]
        obtain ⟨n1, n2⟩ := h.ne5 k hok
        exact k1 k _ n1 n2 h2
    · obtain ⟨g1, g2⟩ := h.rows q hq
      have hl : q.1 < S.length := (List.getElem?_eq_some_iff.1 g2).1
      have hq1 : own z.dp ≠ some q.1 := fun e => g1 (.inr (.inl e))
      have hq2 : own z.ds ≠ some q.1 := fun e => g1 (.inr (.inr (.inl e)))
      refine ⟨?_, ?_⟩
      · rintro (e | e | e | e)
        · exact g1 (.inl e)
        · cases e
          rcases c1 with e' | e'
          · exact hq1 e'
          · omega
        · cases e
          rcases c2 with e' | e'
          · exact hq2 e'
          · omega
        · exact g1 (.inr (.inr (.inr e)))
      · have : X ≠ q.1 := fun e => g1 (.inl e.symm)
        rw [List.getElem?_set_ne this]
        exact k1 _ _ hq1 hq2 g2
  · refine ⟨by rw [List.length_set]; omega, fun j o hj ho => ?_, fun j hj => ?_⟩
    · have : X ≠ j := fun e => hj (.inl e.symm)
      rw [List.getElem?_set_ne this]
      exact k1 j o (fun e => hj (.inr (.inl e))) (fun e => hj (.inr (.inr (.inl e)))) ho
    · rcases hj with e | e | e | e
      · exact .inl (.inl e)
      · cases e
        rcases c1 with e' | e'
        · exact .inl (.inr (.inl e'))
        · exact .inr e'
      · cases e
        rcases c2 with e' | e'
        · exact .inl (.inr (.inr (.inl e')))
        · exact .inr (Nat.le_trans e1 e')
      · exact .inl (.inr (.inr (.inr e)))
/-- A journey is noted. -/
theorem SGood.note (h : SGood lD sgD to most X st S p z) (ho : z.o.length ≤ 2000) :
    ∃ W, dAppend Tryd.prog (S ++ [.row 1 (p.map fun a => [intV a])]) 43 43 z.dO (.sl 1 [[.os S.length 0 p.length false]] true) = some (.os (S.length + 1) 0 (z.o.length + 1) false, W) ∧
      W[X]? = some (xRow lD sgD to most z.dO z.ds z.dp) ∧
      SGood lD sgD to most X st (W.set X (xRow lD sgD to most (.os (S.length + 1) 0 (z.o.length + 1) false) z.ds z.dp)) p ⟨z.dp, z.ds, .os (S.length + 1) 0 (z.o.length + 1) false, z.o ++ [(S.length, p)]⟩ ∧
      StepR X S z (W.set X (xRow lD sgD to most (.os (S.length + 1) 0 (z.o.length + 1) false) z.ds z.dp)) ⟨z.dp, z.ds, .os (S.length + 1) 0 (z.o.length + 1) false, z.o ++ [(S.length, p)]⟩ := by
  have hp := h.push (.row 1 (p.map fun a => [intV a]))
  have hlT : (S ++ [Ob.row 1 (p.map fun a => [intV a])]).length = S.length + 1 := by simp
  obtain ⟨W, a1, b1, c1, f1, -⟩ := app_gl (t := 43) (e := 54) (z := .nils) (n := 0) (by kernel_rfl) (by kernel_rfl) (by kernel_rfl) rfl (Nat.le_of_ble_eq_true (by kernel_rfl)) hp.out (by omega) ((S.length, p) : Nat × List Nat)
  rw [hlT] at a1 b1 c1
  have hnew : (S ++ [Ob.row 1 (p.map fun a => [intV a])])[S.length]? = some (.row 1 (p.map fun a => [intV a])) := get_end
  have hold : ∀ j o, S[j]? = some o → (S ++ [Ob.row 1 (p.map fun a => [intV a])])[j]? = some o := fun j o h => get_old h
  have hno : ∀ k, own z.dO ≠ some k → ∀ n, z.dO = .os k 0 n false → False := fun k hk n e => hk (by rw [e]; rfl)
  have g1 : ∀ j o, own z.dO ≠ some j → S[j]? = some o → W[j]? = some o := fun j o hj ho => f1 j o (hno j hj) (hold j o ho)
  have hXl : X < S.length := (List.getElem?_eq_some_iff.1 h.row).1
  have hX1 := g1 X _ h.ne3 h.row
  have hXW : X < W.length := by omega
  have hdp : ∀ k, own z.dp = some k → own z.dO ≠ some k := fun k hk e => (h.ne5 k e).1 hk
  have hds : ∀ k, own z.ds = some k → own z.dO ≠ some k := fun k hk e => (h.ne5 k e).2 hk
  have hoX : ∀ k, own z.dp = some k → X ≠ k := fun k hk e => h.ne1 (by rw [e]; exact hk)
  have hoX2 : ∀ k, own z.ds = some k → X ≠ k := fun k hk e => h.ne2 (by rw [e]; exact hk)
  refine ⟨W, a1, hX1, ?_, ?_⟩
  · refine ⟨List.getElem?_set_self hXW, h.path.keep fun k o hk ho => ?_, h.stop.keep fun k o hk ho => ?_, ?_, h.sh, h.ne1, h.ne2, by simp [own]; omega, h.ne4, fun j hj => ?_, fun q hq => ?_⟩
    · rw [List.getElem?_set_ne (hoX k hk)]; exact g1 k o (hdp k hk) ho
    · rw [List.getElem?_set_ne (hoX2 k hk)]; exact g1 k o (hds k hk) ho
    · rcases b1 with ⟨h1, h2⟩ | ⟨k, h1, h2⟩
      · cases h1
      · refine .inr ⟨k, by rw [h1, List.length_append], ?_⟩
        simp only [D.os.injEq] at h1
        rw [List.getElem?_set_ne (by omega)]; exact h2
    · cases hj
      exact ⟨fun e => by have := h.path.lt e; omega, fun e => by have := h.stop.lt e; omega⟩
    · rcases List.mem_append.1 hq with hq | hq
      · obtain ⟨m1, m2⟩ := h.rows q hq
        have hl : q.1 < S.length := (List.getElem?_eq_some_iff.1 m2).1
        refine ⟨?_, ?_⟩
        · rintro (e | e | e | e)
          · exact m1 (.inl e)
          · exact m1 (.inr (.inl e))
          · exact m1 (.inr (.inr (.inl e)))
          · simp only [own, Option.some.injEq] at e; omega
        · have : X ≠ q.1 := fun e => m1 (.inl e.symm)
          rw [List.getElem?_set_ne this]
          exact g1 _ _ (fun e => m1 (.inr (.inr (.inr e)))) m2
      · obtain rfl : q = (S.length, p) := by simpa using hq
        refine ⟨?_, ?_⟩
        · rintro (e | e | e | e)
          · simp only at e; omega
          · have := h.path.lt e; simp only at this; omega
          · have := h.stop.lt e; simp only at this; omega
          · simp [own] at e
        · have : X ≠ S.length := by omega
          rw [List.getElem?_set_ne this]
          exact f1 _ _ (hno _ (fun e => by have := gl_own h.out e; omega)) hnew
  · refine ⟨by rw [List.length_set]; omega, fun j o hj ho => ?_, fun j hj => ?_⟩
    · have : X ≠ j := fun e => hj (.inl e.symm)
      rw [List.getElem?_set_ne this]
      exact g1 j o (fun e => hj (.inr (.inr (.inr e)))) ho
    · rcases hj with e | e | e | e
      · exact .inl (.inl e)
      · exact .inl (.inr (.inl e))
      · exact .inl (.inr (.inr (.inl e)))
      · cases e; exact .inr (by omega)
/-- The journey is shortened. -/
theorem SGood.back {kp ks n m : Nat} (h : SGood lD sgD to most X st S p z) (hdp : z.dp = .os kp 0 p.length false) (hds : z.ds = .os ks 0 st.length false) (hn : n ≤ p.length) (hm : m ≤ st.length) :
    SGood lD sgD to most X (st.take m) (S.set X (xRow lD sgD to most z.dO (.os ks 0 m false) (.os kp 0 n false))) (p.take n) ⟨.os kp 0 n false, .os ks 0 m false, z.dO, z.o⟩ ∧ StepR X S z (S.set X (xRow lD sgD to most z.dO (.os ks 0 m false) (.os kp 0 n false))) ⟨.os kp 0 n false, .os ks 0 m false, z.dO, z.o⟩ := by
  have hXl : X < S.length := (List.getElem?_eq_some_iff.1 h.row).1
  have e1 : own z.dp = some kp := by rw [hdp]; rfl
  have e2 : own z.ds = some ks := by rw [hds]; rfl
  have q1 := h.path
  have q2 := h.stop
  rw [hdp] at q1
  rw [hds] at q2
  have hpl : (p.take n).length = n := by rw [List.length_take]; omega
  have hsl : (st.take m).length = m := by rw [List.length_take]; omega
  have kX : kp ≠ X := fun e => h.ne1 (by rw [e1, e])
  have sX : ks ≠ X := fun e => h.ne2 (by rw [e2, e])
  have hk : ∀ k o, X ≠ k → S[k]? = some o → (S.set X (xRow lD sgD to most z.dO (.os ks 0 m false) (.os kp 0 n false)))[k]? = some o := fun k o hk ho => by rw [List.getElem?_set_ne hk]; exact ho
  have hmine : ∀ j, mine X ⟨.os kp 0 n false, .os ks 0 m false, z.dO, z.o⟩ j ↔ mine X z j := fun j => by
    unfold mine
    simp only [hdp, hds, own]
  refine ⟨⟨List.getElem?_set_self hXl, (q1.cut hn).keep fun k o hk' ho => ?_, (q2.cut hm).keep fun k o hk' ho => ?_, ?_, .inr ⟨kp, ks, by rw [hpl], by rw [hsl]⟩, by simpa [own] using kX, by simpa [own] using sX, h.ne3, fun j hj => ?_, fun j hj => ?_, fun q hq => ?_⟩, ?_⟩
  · cases hk'; exact hk _ o (Ne.symm kX) ho
  · cases hk'; exact hk _ o (Ne.symm sX) ho
  · rcases h.out with ⟨h1, h2⟩ | ⟨k, h1, h2⟩
    · exact .inl ⟨h1, h2⟩
    · refine .inr ⟨k, h1, hk k _ (fun e => h.ne3 (by rw [h1, e]; rfl)) h2⟩
  · cases hj; exact fun e => h.ne4 kp e1 (by rw [e2]; simpa [own] using e)
  · obtain ⟨n1, n2⟩ := h.ne5 j hj
    rw [e1] at n1
    rw [e2] at n2
    exact ⟨n1, n2⟩
  · obtain ⟨m1, m2⟩ := h.rows q hq
    exact ⟨fun e => m1 ((hmine q.1).1 e), hk _ _ (fun e => m1 (.inl e.symm)) m2⟩
  · exact ⟨by rw [List.length_set]; exact Nat.le_refl _, fun j o hj ho => hk j o (fun e => hj (.inl e.symm)) ho, fun j hj => .inl ((hmine j).1 hj)⟩
end

def plan7 : Plan := steps [0, 1, 2, 3, 4, 5, 6, 7, 9, 10, 11, 13] (.both (steps [8, 12, 14, 15, 16, 17, 18, 19, 20, 21, 22] .done) (.both (steps [12] (.both (steps [8, 14, 15, 16, 17, 18, 19, 20, 21, 22] .done) (steps [14, 8, 15, 16, 17, 18, 19, 20, 21, 22] .done))) (steps [14, 15] (.both (steps [8, 12, 16, 17, 18, 19, 20, 21, 22] .done) (steps [12, 8, 16, 17, 18, 19, 20, 21, 22] .done)))))
def plan12 : Plan := steps [0, 1, 2, 3, 4, 5, 6, 7, 8, 9, 10, 11, 12, 13, 15, 16] (.both (steps [14, 17, 18, 19, 20] .done) (steps [17, 14, 18, 19, 20] .done))
/-- Where the segments lie. -/
def SegD (S : List Ob) (sgD : D) (segs : List Sgm) : Prop := (sgD = .nils ∧ segs = []) ∨ (∃ x, sgD = .sl 7 (segs.map Sgm.enc) x) ∨ ∃ k, sgD = .os k 0 segs.length false ∧ S[k]? = some (.row 7 (segs.map Sgm.enc))
theorem SegD.keep {S T : List Ob} {sgD : D} {segs : List Sgm} (h : SegD S sgD segs) (g : ∀ k o, own sgD = some k → S[k]? = some o → T[k]? = some o) : SegD T sgD segs := by
  rcases h with h | h | ⟨k, h1, h2⟩
  · exact .inl h
  · exact .inr (.inl h)
  · exact .inr (.inr ⟨k, h1, g k _ (by rw [h1]; rfl) h2⟩)
theorem pre_split {l segs fr to m p} : ∀ (k i : Nat), ∃ c, pre l segs fr to m p (i + k) = pre l segs fr to m p i ++ c
  | 0, i => ⟨[], by simp⟩
  | k + 1, i => by
    obtain ⟨c, hc⟩ := pre_split (l := l) (segs := segs) (fr := fr) (to := to) (m := m) (p := p) k i
    exact ⟨_, by rw [← Nat.add_assoc, pre_succ, hc, List.append_assoc]⟩
theorem stops_len {fr segs p} : (stopsL fr segs p).length = p.length + 1 := by simp [stopsL]
theorem stops_app {fr segs p i} : stopsL fr segs (p ++ [i]) = stopsL fr segs p ++ [tAt segs i] := by simp [stopsL]
theorem loc_own {kk i o : Nat} {l : List D} : pureL (.loc kk i o :: l) = false := by simp [pureL_cons, D.pure]
section
variable {l : List Cnn} {segs : List Sgm} {lD sgD : D} {fr to : ByteArray} {most X : Nat}
/-- The invariant of the loop. -/
structure ExI (l : List Cnn) (segs : List Sgm) (lD sgD : D) (fr to : ByteArray) (most X m : Nat) (p : List Nat) (S0 : List Ob) (z0 : Zs) (o0 : List (List Nat)) (i : Nat) (T : List Ob) (z : Zs) : Prop where
  good : SGood lD sgD to most X (stopsL fr segs p) T p z
  seg : SegD T sgD segs
  step : StepR X S0 z0 T z
  outs : z.outs = (o0 ++ pre l segs fr to m p i).take 1025
theorem ExI.push {m p S0 z0 o0 i T z} (h : ExI l segs lD sgD fr to most X m p S0 z0 o0 i T z) (o : Ob) : ExI l segs lD sgD fr to most X m p S0 z0 o0 i (T ++ [o]) z :=
  ⟨h.good.push o, h.seg.keep fun _ _ _ h => get_old h, h.step.push o, h.outs⟩
theorem ExI.skip {m p S0 z0 o0 i T z} (h : ExI l segs lD sgD fr to most X m p S0 z0 o0 i T z) (hc : cand l segs fr p i = false) : ExI l segs lD sgD fr to most X m p S0 z0 o0 (i + 1) T z :=
  ⟨h.good, h.seg, h.step, by rw [pre_succ, hc, if_neg (by simp), List.append_nil]; exact h.outs⟩
theorem ExI.olen {m p S0 z0 o0 i T z} (h : ExI l segs lD sgD fr to most X m p S0 z0 o0 i T z) : z.o.length ≤ 1025 := by
  have := congrArg List.length h.outs
  rw [List.length_take] at this
  simp only [Zs.outs, List.length_map] at this
  omega
theorem ExI.full {m p S0 z0 o0 i T z} (h : ExI l segs lD sgD fr to most X m p S0 z0 o0 i T z) (hi : i ≤ segs.length) (hf : 1024 < z.o.length) : z.outs = (o0 ++ dfs l segs fr to (m + 1) p).take 1025 := by
  obtain ⟨c, hc⟩ := pre_split (l := l) (segs := segs) (fr := fr) (to := to) (m := m) (p := p) (segs.length - i) i
  rw [show i + (segs.length - i) = segs.length by omega] at hc
  rw [dfs_pre, hc, take_full, h.outs]
  rw [← h.outs]
  have := h.olen
  simp only [Zs.outs, List.length_map]
  omega
set_option maxHeartbeats 32000000 in
set_option maxRecDepth 100000 in
theorem ext_d (hFit : ∀ n, l.length + 40 ≤ n → ∀ st S a b, Near a → Near b → callD E (dcall E n) st S 15 [lD, .agg a.enc, .agg b.enc] = some (.bool (fitB l a b), S)) (_hl1 : lD.one = true) (hg1 : sgD.one = true) (hnear : ∀ s ∈ segs, Near s) (hsl : segs.length ≤ 200) (hmo : most ≤ 3) :
    ∀ (m : Nat) {n : Nat} {p : List Nat} {S : List Ob} {z : Zs}, p.length + (m + 1) = most → (∀ j ∈ p, j < segs.length) → (∀ k, own sgD = some k → ¬ mine X z k) → SGood lD sgD to most X (stopsL fr segs p) S p z → SegD S sgD segs → z.o.length ≤ 1025 → segs.length + l.length + m + 60 ≤ n →
    WO (dcall E (n + 1) 40 [.loc X 0 0] S) fun _ T => ∃ z', SGood lD sgD to most X (stopsL fr segs p) T p z' ∧ SegD T sgD segs ∧ StepR X S z T z' ∧ z'.outs = (z.outs ++ dfs l segs fr to (m + 1) p).take 1025 := by
  intro m
  induction m using Nat.strongRecOn with
  | _ m ih =>
  intro n p S z hpm hpj hsg hg hseg hzo hn
  have hsm : ∀ T' z', StepR X S z T' z' → ∀ k, own sgD = some k → ¬ mine X z' k := fun T' z' h k hk hm => by
    have hkl : k < S.length := by
      rcases hseg with ⟨rfl, -⟩ | ⟨x, rfl⟩ | ⟨k', rfl, h2⟩
      · cases hk
      · cases hk
      · cases hk; exact (List.getElem?_eq_some_iff.1 h2).1
    rcases h.new k hm with h1 | h1
    · exact hsg k hk h1
    · omega
  obtain ⟨o0, ho0⟩ : ∃ o0, o0 = z.outs := ⟨_, rfl⟩
  rw [← ho0]
  have ho0l : o0.length ≤ 1025 := by rw [ho0]; simpa [Zs.outs] using hzo
  refine wo_dcall Tryd.func40 rfl (by decide) rfl 141 rfl (fun a hal ha => ?_)
  have h0 : a[0]? = some (.loc X 0 0) := ha 0 (by simp)
  clear ha
  have hXr := hg.row
  unfold xRow at hXr
  refine wc_scut (fun a T => T = S ∧ a.length = 141 ∧ a[0]? = some (.loc X 0 0) ∧ a[8]? = some (sgD) ∧ a[9]? = some (.int .i64 segs.length) ∧ a[10]? = some (.int .i64 (0 : Nat))) ?_ ?_
  · rcases hseg with ⟨rfl, hse0⟩ | ⟨x, rfl⟩ | ⟨k, rfl, -⟩
    · simp (maxSteps := 1000000) (disch := omega) only [push_cast, ↓wc_seq, ↓wc_block, ↓wc_scope, ↓wc_condL, ↓wc_region, ↓wr_cons, ↓wr_consgL, ↓wr_nil, ↓wo_pickL, ↓wo_callf, ↓wc_exit, ↓wc_ret, ↓wc_skip, ↓wc_wl, wo_some, wo_none, wo_ite, opQ_eq, seqQ_normal, seqQ_exit, seqQ_ret, blockQ_normal, blockQ_exit, blockQ_ret, iterQ_normal, iterQ_exit, iterQ_ret, retQ_normal, retQ_ret, retQ_exit, pickC_true, pickC_false, pickO_true, pickO_false, gstep_tt, gstep_ff, gstep_tf, gstep_ft, gstep_skip, int_bne, int_beq, decide_not, Nat.reduceAdd, Nat.reduceMul, Nat.reduceSub, Nat.reducePow, Nat.reduceLT, Nat.reduceLeDiff, Nat.reduceEqDiff, Int.reduceToNat, Int.reduceAdd, Int.reduceSub, Int.reduceNeg, Int.reduceMul, Int.reduceLT, Int.reduceLE, Int.reduceEq, le_max, ↓wo_build, ↓wo_buildSlice, evParts, ↓reduceIte, planIds, hasExt, cntFs, idxFs, clnFs, ovlFs, List.contains_cons, List.contains_nil, List.any_cons, List.any_nil, Nat.reduceBEq, setC, List.length_set, decide_eq_true_eq, decide_eq_false_iff_not, true_implies, false_implies, forall_const, reduceCtorEq, eq_self, Int.natCast_nonneg, Int.toNat_natCast, Int.ofNat_lt, D.int.injEq, Option.some.injEq, Nat.zero_add, Nat.add_zero, bne_iff_ne, bne_eq_false_iff_eq, beq_iff_eq, beq_eq_false_iff_ne, gt_iff_lt, ne_eq, not_true_eq_false, not_false_eq_true, planIds, hasExt, cntFs, idxFs, clnFs, ovlFs, List.contains_cons, List.contains_nil, List.any_cons, List.any_nil, Nat.reduceBEq, Nat.reduceMul, Nat.reduceAdd, ↓reduceIte, hal, h0, hXr, hse0, List.length_nil, Int.natCast_zero]
    · simp (maxSteps := 1000000) (disch := omega) only [push_cast, ↓wc_seq, ↓wc_block, ↓wc_scope, ↓wc_condL, ↓wc_region, ↓wr_cons, ↓wr_consgL, ↓wr_nil, ↓wo_pickL, ↓wo_callf, ↓wc_exit, ↓wc_ret, ↓wc_skip, ↓wc_wl, wo_some, wo_none, wo_ite, opQ_eq, seqQ_normal, seqQ_exit, seqQ_ret, blockQ_normal, blockQ_exit, blockQ_ret, iterQ_normal, iterQ_exit, iterQ_ret, retQ_normal, retQ_ret, retQ_exit, pickC_true, pickC_false, pickO_true, pickO_false, gstep_tt, gstep_ff, gstep_tf, gstep_ft, gstep_skip, int_bne, int_beq, decide_not, Nat.reduceAdd, Nat.reduceMul, Nat.reduceSub, Nat.reducePow, Nat.reduceLT, Nat.reduceLeDiff, Nat.reduceEqDiff, Int.reduceToNat, Int.reduceAdd, Int.reduceSub, Int.reduceNeg, Int.reduceMul, Int.reduceLT, Int.reduceLE, Int.reduceEq, le_max, ↓wo_build, ↓wo_buildSlice, evParts, ↓reduceIte, planIds, hasExt, cntFs, idxFs, clnFs, ovlFs, List.contains_cons, List.contains_nil, List.any_cons, List.any_nil, Nat.reduceBEq, setC, List.length_set, decide_eq_true_eq, decide_eq_false_iff_not, true_implies, false_implies, forall_const, reduceCtorEq, eq_self, Int.natCast_nonneg, Int.toNat_natCast, Int.ofNat_lt, D.int.injEq, Option.some.injEq, Nat.zero_add, Nat.add_zero, bne_iff_ne, bne_eq_false_iff_eq, beq_iff_eq, beq_eq_false_iff_ne, gt_iff_lt, ne_eq, not_true_eq_false, not_false_eq_true, planIds, hasExt, cntFs, idxFs, clnFs, ovlFs, List.contains_cons, List.contains_nil, List.any_cons, List.any_nil, Nat.reduceBEq, Nat.reduceMul, Nat.reduceAdd, ↓reduceIte, hal, h0, hXr, List.length_map, Int.natCast_zero]
    · simp (maxSteps := 1000000) (disch := omega) only [push_cast, ↓wc_seq, ↓wc_block, ↓wc_scope, ↓wc_condL, ↓wc_region, ↓wr_cons, ↓wr_consgL, ↓wr_nil, ↓wo_pickL, ↓wo_callf, ↓wc_exit, ↓wc_ret, ↓wc_skip, ↓wc_wl, wo_some, wo_none, wo_ite, opQ_eq, seqQ_normal, seqQ_exit, seqQ_ret, blockQ_normal, blockQ_exit, blockQ_ret, iterQ_normal, iterQ_exit, iterQ_ret, retQ_normal, retQ_ret, retQ_exit, pickC_true, pickC_false, pickO_true, pickO_false, gstep_tt, gstep_ff, gstep_tf, gstep_ft, gstep_skip, int_bne, int_beq, decide_not, Nat.reduceAdd, Nat.reduceMul, Nat.reduceSub, Nat.reducePow, Nat.reduceLT, Nat.reduceLeDiff, Nat.reduceEqDiff, Int.reduceToNat, Int.reduceAdd, Int.reduceSub, Int.reduceNeg, Int.reduceMul, Int.reduceLT, Int.reduceLE, Int.reduceEq, le_max, ↓wo_build, ↓wo_buildSlice, evParts, ↓reduceIte, planIds, hasExt, cntFs, idxFs, clnFs, ovlFs, List.contains_cons, List.contains_nil, List.any_cons, List.any_nil, Nat.reduceBEq, setC, List.length_set, decide_eq_true_eq, decide_eq_false_iff_not, true_implies, false_implies, forall_const, reduceCtorEq, eq_self, Int.natCast_nonneg, Int.toNat_natCast, Int.ofNat_lt, D.int.injEq, Option.some.injEq, Nat.zero_add, Nat.add_zero, bne_iff_ne, bne_eq_false_iff_eq, beq_iff_eq, beq_eq_false_iff_ne, gt_iff_lt, ne_eq, not_true_eq_false, not_false_eq_true, planIds, hasExt, cntFs, idxFs, clnFs, ovlFs, List.contains_cons, List.contains_nil, List.any_cons, List.any_nil, Nat.reduceBEq, Nat.reduceMul, Nat.reduceAdd, ↓reduceIte, hal, h0, hXr, Int.natCast_zero]
  clear hal h0 a
  rintro a T ⟨rfl, hal, h0, h8, h9, h10⟩
  simp (maxSteps := 1000000) (disch := omega) only [push_cast, ↓wc_seq, ↓wc_block, ↓wc_scope, ↓wc_condL, ↓wc_region, ↓wr_cons, ↓wr_consgL, ↓wr_nil, ↓wo_pickL, ↓wo_callf, ↓wc_exit, ↓wc_ret, ↓wc_skip, ↓wc_wl, wo_some, wo_none, wo_ite, opQ_eq, seqQ_normal, seqQ_exit, seqQ_ret, blockQ_normal, blockQ_exit, blockQ_ret, iterQ_normal, iterQ_exit, iterQ_ret, retQ_normal, retQ_ret, retQ_exit, pickC_true, pickC_false, pickO_true, pickO_false, gstep_tt, gstep_ff, gstep_tf, gstep_ft, gstep_skip, int_bne, int_beq, decide_not, Nat.reduceAdd, Nat.reduceMul, Nat.reduceSub, Nat.reducePow, Nat.reduceLT, Nat.reduceLeDiff, Nat.reduceEqDiff, Int.reduceToNat, Int.reduceAdd, Int.reduceSub, Int.reduceNeg, Int.reduceMul, Int.reduceLT, Int.reduceLE, Int.reduceEq, le_max, ↓wo_build, ↓wo_buildSlice, evParts, ↓reduceIte, planIds, hasExt, cntFs, idxFs, clnFs, ovlFs, List.contains_cons, List.contains_nil, List.any_cons, List.any_nil, Nat.reduceBEq, setC, List.length_set, decide_eq_true_eq, decide_eq_false_iff_not, true_implies, false_implies, forall_const, reduceCtorEq, eq_self, Int.natCast_nonneg, Int.toNat_natCast, Int.ofNat_lt, D.int.injEq, Option.some.injEq, Nat.zero_add, Nat.add_zero, bne_iff_ne, bne_eq_false_iff_eq, beq_iff_eq, beq_eq_false_iff_ne, gt_iff_lt, ne_eq, not_true_eq_false, not_false_eq_true, planIds, hasExt, cntFs, idxFs, clnFs, ovlFs, List.contains_cons, List.contains_nil, List.any_cons, List.any_nil, Nat.reduceBEq, Nat.reduceMul, Nat.reduceAdd, ↓reduceIte, hal, h0, h8, h9, h10]
  refine wl_loop (fun i a T' => ∃ z', a.length = 141 ∧ a[0]? = some (.loc X 0 0) ∧ a[8]? = some (sgD) ∧ a[9]? = some (.int .i64 segs.length) ∧ a[10]? = some (.int .i64 i) ∧ ExI l segs lD sgD fr to most X m p T z o0 i T' z') segs.length ?_ (by omega) ?_
  · simp (maxSteps := 1000000) (disch := omega) only [push_cast, ↓wc_seq, ↓wc_block, ↓wc_scope, ↓wc_condL, ↓wc_region, ↓wr_cons, ↓wr_consgL, ↓wr_nil, ↓wo_pickL, ↓wo_callf, ↓wc_exit, ↓wc_ret, ↓wc_skip, ↓wc_wl, wo_some, wo_none, wo_ite, opQ_eq, seqQ_normal, seqQ_exit, seqQ_ret, blockQ_normal, blockQ_exit, blockQ_ret, iterQ_normal, iterQ_exit, iterQ_ret, retQ_normal, retQ_ret, retQ_exit, pickC_true, pickC_false, pickO_true, pickO_false, gstep_tt, gstep_ff, gstep_tf, gstep_ft, gstep_skip, int_bne, int_beq, decide_not, Nat.reduceAdd, Nat.reduceMul, Nat.reduceSub, Nat.reducePow, Nat.reduceLT, Nat.reduceLeDiff, Nat.reduceEqDiff, Int.reduceToNat, Int.reduceAdd, Int.reduceSub, Int.reduceNeg, Int.reduceMul, Int.reduceLT, Int.reduceLE, Int.reduceEq, le_max, ↓wo_build, ↓wo_buildSlice, evParts, ↓reduceIte, planIds, hasExt, cntFs, idxFs, clnFs, ovlFs, List.contains_cons, List.contains_nil, List.any_cons, List.any_nil, Nat.reduceBEq, setC, List.length_set, decide_eq_true_eq, decide_eq_false_iff_not, true_implies, false_implies, forall_const, reduceCtorEq, eq_self, Int.natCast_nonneg, Int.toNat_natCast, Int.ofNat_lt, D.int.injEq, Option.some.injEq, Nat.zero_add, Nat.add_zero, bne_iff_ne, bne_eq_false_iff_eq, beq_iff_eq, beq_eq_false_iff_ne, gt_iff_lt, ne_eq, not_true_eq_false, not_false_eq_true, planIds, hasExt, cntFs, idxFs, clnFs, ovlFs, List.contains_cons, List.contains_nil, List.any_cons, List.any_nil, Nat.reduceBEq, Nat.reduceMul, Nat.reduceAdd, ↓reduceIte, hal, h0, h8, h9, h10]
    exact ⟨z, hg, hseg, StepR.refl, by rw [ho0, pre, List.range_zero, List.flatMap_nil, List.append_nil, List.take_of_length_le (by rw [← ho0]; exact ho0l)]⟩
  clear hal h0 h8 h9 h10 a
  clear hg hseg hXr
  rintro i a T1 hi ⟨z1, hal, h0, h8, h9, h10, hI⟩
  rcases Nat.lt_or_eq_of_le hi with hlt | rfl
  case inr =>
    simp (maxSteps := 1000000) (disch := omega) only [push_cast, ↓wc_seq, ↓wc_block, ↓wc_scope, ↓wc_condL, ↓wc_region, ↓wr_cons, ↓wr_consgL, ↓wr_nil, ↓wo_pickL, ↓wo_callf, ↓wc_exit, ↓wc_ret, ↓wc_skip, ↓wc_wl, wo_some, wo_none, wo_ite, opQ_eq, seqQ_normal, seqQ_exit, seqQ_ret, blockQ_normal, blockQ_exit, blockQ_ret, iterQ_normal, iterQ_exit, iterQ_ret, retQ_normal, retQ_ret, retQ_exit, pickC_true, pickC_false, pickO_true, pickO_false, gstep_tt, gstep_ff, gstep_tf, gstep_ft, gstep_skip, int_bne, int_beq, decide_not, Nat.reduceAdd, Nat.reduceMul, Nat.reduceSub, Nat.reducePow, Nat.reduceLT, Nat.reduceLeDiff, Nat.reduceEqDiff, Int.reduceToNat, Int.reduceAdd, Int.reduceSub, Int.reduceNeg, Int.reduceMul, Int.reduceLT, Int.reduceLE, Int.reduceEq, le_max, ↓wo_build, ↓wo_buildSlice, evParts, ↓reduceIte, planIds, hasExt, cntFs, idxFs, clnFs, ovlFs, List.contains_cons, List.contains_nil, List.any_cons, List.any_nil, Nat.reduceBEq, setC, List.length_set, decide_eq_true_eq, decide_eq_false_iff_not, true_implies, false_implies, forall_const, reduceCtorEq, eq_self, Int.natCast_nonneg, Int.toNat_natCast, Int.ofNat_lt, D.int.injEq, Option.some.injEq, Nat.zero_add, Nat.add_zero, bne_iff_ne, bne_eq_false_iff_eq, beq_iff_eq, beq_eq_false_iff_ne, gt_iff_lt, ne_eq, not_true_eq_false, not_false_eq_true, planIds, hasExt, cntFs, idxFs, clnFs, ovlFs, List.contains_cons, List.contains_nil, List.any_cons, List.any_nil, Nat.reduceBEq, Nat.reduceMul, Nat.reduceAdd, ↓reduceIte, hal, h0, h8, h9, h10, Nat.lt_irrefl, Tryd.f40]
    exact ⟨z1, hI.good, hI.seg, hI.step, by rw [dfs_pre]; exact hI.outs⟩
  obtain ⟨s, hs⟩ : ∃ s, segs[i]? = some s := ⟨segs[i], by simp⟩
  have ns := hnear s (List.mem_of_getElem? hs)
  have hse : s.enc = [.str s.c, .int .i64 s.n, .int .i64 s.d, .str s.f, .str s.t, .int .i64 s.dep, .int .i64 s.arr] := rfl
  have ht : tAt segs i = s.t := by unfold tAt; rw [hs]
  have hw2 : IntKind.i64.wrap ((i : Int) + 1) = (i : Int) + 1 := wrap_ok (by omega) (by omega)
  rw [wc_asc]
  refine wc_scut (fun a T => T = T1 ∧ a.length = 141 ∧ a[0]? = some (.loc X 0 0) ∧ a[8]? = some (sgD) ∧ a[9]? = some (.int .i64 segs.length) ∧ a[10]? = some (.int .i64 i)) ?_ ?_
  · simp (maxSteps := 1000000) (disch := omega) only [push_cast, ↓wc_seq, ↓wc_block, ↓wc_scope, ↓wc_condL, ↓wc_region, ↓wr_cons, ↓wr_consgL, ↓wr_nil, ↓wo_pickL, ↓wo_callf, ↓wc_exit, ↓wc_ret, ↓wc_skip, ↓wc_wl, wo_some, wo_none, wo_ite, opQ_eq, seqQ_normal, seqQ_exit, seqQ_ret, blockQ_normal, blockQ_exit, blockQ_ret, iterQ_normal, iterQ_exit, iterQ_ret, retQ_normal, retQ_ret, retQ_exit, pickC_true, pickC_false, pickO_true, pickO_false, gstep_tt, gstep_ff, gstep_tf, gstep_ft, gstep_skip, int_bne, int_beq, decide_not, Nat.reduceAdd, Nat.reduceMul, Nat.reduceSub, Nat.reducePow, Nat.reduceLT, Nat.reduceLeDiff, Nat.reduceEqDiff, Int.reduceToNat, Int.reduceAdd, Int.reduceSub, Int.reduceNeg, Int.reduceMul, Int.reduceLT, Int.reduceLE, Int.reduceEq, le_max, ↓wo_build, ↓wo_buildSlice, evParts, ↓reduceIte, planIds, hasExt, cntFs, idxFs, clnFs, ovlFs, List.contains_cons, List.contains_nil, List.any_cons, List.any_nil, Nat.reduceBEq, setC, List.length_set, decide_eq_true_eq, decide_eq_false_iff_not, true_implies, false_implies, forall_const, reduceCtorEq, eq_self, Int.natCast_nonneg, Int.toNat_natCast, Int.ofNat_lt, D.int.injEq, Option.some.injEq, Nat.zero_add, Nat.add_zero, bne_iff_ne, bne_eq_false_iff_eq, beq_iff_eq, beq_eq_false_iff_ne, gt_iff_lt, ne_eq, not_true_eq_false, not_false_eq_true, planIds, hasExt, cntFs, idxFs, clnFs, ovlFs, List.contains_cons, List.contains_nil, List.any_cons, List.any_nil, Nat.reduceBEq, Nat.reduceMul, Nat.reduceAdd, ↓reduceIte, hal, h0, h8, h9, h10, hlt]
  clear hal h0 h8 h9 h10 a
  rintro a T1 ⟨rfl, hal, h0, h8, h9, h10⟩
  rw [wc_seq, wc_block]
  -- the segment
  obtain ⟨q, hq⟩ : ∃ q, q = T1.length := ⟨_, rfl⟩
  have hqT : (T1 ++ [Ob.row 7 [s.enc]])[q]? = some (.row 7 [s.enc]) := by rw [hq]; exact get_end
  refine wc_scut (fun a T => T = T1 ++ [.row 7 [s.enc]] ∧ a.length = 141 ∧ a[0]? = some (.loc X 0 0) ∧ a[2]? = some (.int .i64 i) ∧ a[3]? = some (.loc q 0 0) ∧ a[8]? = some (sgD) ∧ a[9]? = some (.int .i64 segs.length) ∧ a[10]? = some (.int .i64 i)) ?_ ?_
  · have hseg := hI.seg
    rw [hq, hse]
    rcases hseg with ⟨rfl, hse0⟩ | ⟨x, rfl⟩ | ⟨k, rfl, hk⟩
    · rw [hse0] at hs; simp at hs
    · simp (maxSteps := 1000000) (disch := omega) only [push_cast, ↓wc_seq, ↓wc_block, ↓wc_scope, ↓wc_condL, ↓wc_region, ↓wr_cons, ↓wr_consgL, ↓wr_nil, ↓wo_pickL, ↓wo_callf, ↓wc_exit, ↓wc_ret, ↓wc_skip, ↓wc_wl, wo_some, wo_none, wo_ite, opQ_eq, seqQ_normal, seqQ_exit, seqQ_ret, blockQ_normal, blockQ_exit, blockQ_ret, iterQ_normal, iterQ_exit, iterQ_ret, retQ_normal, retQ_ret, retQ_exit, pickC_true, pickC_false, pickO_true, pickO_false, gstep_tt, gstep_ff, gstep_tf, gstep_ft, gstep_skip, int_bne, int_beq, decide_not, Nat.reduceAdd, Nat.reduceMul, Nat.reduceSub, Nat.reducePow, Nat.reduceLT, Nat.reduceLeDiff, Nat.reduceEqDiff, Int.reduceToNat, Int.reduceAdd, Int.reduceSub, Int.reduceNeg, Int.reduceMul, Int.reduceLT, Int.reduceLE, Int.reduceEq, le_max, ↓wo_build, ↓wo_buildSlice, evParts, ↓reduceIte, planIds, hasExt, cntFs, idxFs, clnFs, ovlFs, List.contains_cons, List.contains_nil, List.any_cons, List.any_nil, Nat.reduceBEq, setC, List.length_set, decide_eq_true_eq, decide_eq_false_iff_not, true_implies, false_implies, forall_const, reduceCtorEq, eq_self, Int.natCast_nonneg, Int.toNat_natCast, Int.ofNat_lt, D.int.injEq, Option.some.injEq, Nat.zero_add, Nat.add_zero, bne_iff_ne, bne_eq_false_iff_eq, beq_iff_eq, beq_eq_false_iff_ne, gt_iff_lt, ne_eq, not_true_eq_false, not_false_eq_true, planIds, hasExt, cntFs, idxFs, clnFs, ovlFs, List.contains_cons, List.contains_nil, List.any_cons, List.any_nil, Nat.reduceBEq, Nat.reduceMul, Nat.reduceAdd, ↓reduceIte, hal, h0, h8, h9, h10, hlt, hs, hse, List.getElem?_map, List.length_map, set_end, get_end]
    · have hkl : k < T1.length := (List.getElem?_eq_some_iff.1 hk).1
      have hk' : ∀ o, (T1 ++ [o])[k]? = some (.row 7 (segs.map Sgm.enc)) := fun o => get_old hk
      simp (maxSteps := 1000000) (disch := omega) only [push_cast, ↓wc_seq, ↓wc_block, ↓wc_scope, ↓wc_condL, ↓wc_region, ↓wr_cons, ↓wr_consgL, ↓wr_nil, ↓wo_pickL, ↓wo_callf, ↓wc_exit, ↓wc_ret, ↓wc_skip, ↓wc_wl, wo_some, wo_none, wo_ite, opQ_eq, seqQ_normal, seqQ_exit, seqQ_ret, blockQ_normal, blockQ_exit, blockQ_ret, iterQ_normal, iterQ_exit, iterQ_ret, retQ_normal, retQ_ret, retQ_exit, pickC_true, pickC_false, pickO_true, pickO_false, gstep_tt, gstep_ff, gstep_tf, gstep_ft, gstep_skip, int_bne, int_beq, decide_not, Nat.reduceAdd, Nat.reduceMul, Nat.reduceSub, Nat.reducePow, Nat.reduceLT, Nat.reduceLeDiff, Nat.reduceEqDiff, Int.reduceToNat, Int.reduceAdd, Int.reduceSub, Int.reduceNeg, Int.reduceMul, Int.reduceLT, Int.reduceLE, Int.reduceEq, le_max, ↓wo_build, ↓wo_buildSlice, evParts, ↓reduceIte, planIds, hasExt, cntFs, idxFs, clnFs, ovlFs, List.contains_cons, List.contains_nil, List.any_cons, List.any_nil, Nat.reduceBEq, setC, List.length_set, decide_eq_true_eq, decide_eq_false_iff_not, true_implies, false_implies, forall_const, reduceCtorEq, eq_self, Int.natCast_nonneg, Int.toNat_natCast, Int.ofNat_lt, D.int.injEq, Option.some.injEq, Nat.zero_add, Nat.add_zero, bne_iff_ne, bne_eq_false_iff_eq, beq_iff_eq, beq_eq_false_iff_ne, gt_iff_lt, ne_eq, not_true_eq_false, not_false_eq_true, planIds, hasExt, cntFs, idxFs, clnFs, ovlFs, List.contains_cons, List.contains_nil, List.any_cons, List.any_nil, Nat.reduceBEq, Nat.reduceMul, Nat.reduceAdd, ↓reduceIte, hal, h0, h8, h9, h10, hlt, hs, hk, hk', hse, List.getElem?_map, List.length_map, set_end, get_end]
  clear hal h0 h8 h9 h10 a
  have hqm : ¬ mine X z1 q := fun h => by have := hI.good.lt h; omega
  replace hI := hI.push (.row 7 [s.enc])
  generalize T1 ++ [Ob.row 7 [s.enc]] = T2 at *
  rintro a T' ⟨rfl, hal, h0, h2, h3, h8, h9, h10⟩
  rw [hse] at hqT
  by_cases go : 1024 < z1.o.length
  · have go' : (1024 : Int) < (z1.o.length : Int) := by omega
    have hX := hI.good.row
    unfold xRow at hX
    rcases hI.good.out with ⟨k1, k2⟩ | ⟨ko, hko, -⟩
    · rw [k2] at go; simp at go
    · rw [hko] at hX
      simp (maxSteps := 1000000) (disch := omega) only [push_cast, ↓wc_seq, ↓wc_block, ↓wc_scope, ↓wc_condL, ↓wc_region, ↓wr_cons, ↓wr_consgL, ↓wr_nil, ↓wo_pickL, ↓wo_callf, ↓wc_exit, ↓wc_ret, ↓wc_skip, ↓wc_wl, wo_some, wo_none, wo_ite, opQ_eq, seqQ_normal, seqQ_exit, seqQ_ret, blockQ_normal, blockQ_exit, blockQ_ret, iterQ_normal, iterQ_exit, iterQ_ret, retQ_normal, retQ_ret, retQ_exit, pickC_true, pickC_false, pickO_true, pickO_false, gstep_tt, gstep_ff, gstep_tf, gstep_ft, gstep_skip, int_bne, int_beq, decide_not, Nat.reduceAdd, Nat.reduceMul, Nat.reduceSub, Nat.reducePow, Nat.reduceLT, Nat.reduceLeDiff, Nat.reduceEqDiff, Int.reduceToNat, Int.reduceAdd, Int.reduceSub, Int.reduceNeg, Int.reduceMul, Int.reduceLT, Int.reduceLE, Int.reduceEq, le_max, ↓wo_build, ↓wo_buildSlice, evParts, ↓reduceIte, planIds, hasExt, cntFs, idxFs, clnFs, ovlFs, List.contains_cons, List.contains_nil, List.any_cons, List.any_nil, Nat.reduceBEq, setC, List.length_set, decide_eq_true_eq, decide_eq_false_iff_not, true_implies, false_implies, forall_const, reduceCtorEq, eq_self, Int.natCast_nonneg, Int.toNat_natCast, Int.ofNat_lt, D.int.injEq, Option.some.injEq, Nat.zero_add, Nat.add_zero, bne_iff_ne, bne_eq_false_iff_eq, beq_iff_eq, beq_eq_false_iff_ne, gt_iff_lt, ne_eq, not_true_eq_false, not_false_eq_true, planIds, hasExt, cntFs, idxFs, clnFs, ovlFs, List.contains_cons, List.contains_nil, List.any_cons, List.any_nil, Nat.reduceBEq, Nat.reduceMul, Nat.reduceAdd, ↓reduceIte, hal, h0, h2, h3, h8, h9, h10, hX, go', Tryd.f40]
      exact ⟨z1, hI.good, hI.seg, hI.step, hI.full hi go⟩
  have go' : ¬ (1024 : Int) < (z1.o.length : Int) := by omega
  refine wc_scut (fun a T => T = T' ∧ a.length = 141 ∧ a[0]? = some (.loc X 0 0) ∧ a[2]? = some (.int .i64 i) ∧ a[3]? = some (.loc q 0 0) ∧ a[8]? = some (sgD) ∧ a[9]? = some (.int .i64 segs.length) ∧ a[10]? = some (.int .i64 i)) ?_ ?_
  · have hX := hI.good.row
    unfold xRow at hX
    rcases hI.good.out with ⟨k1, k2⟩ | ⟨ko, hko, -⟩
    · rw [k1] at hX
      simp (maxSteps := 1000000) (disch := omega) only [push_cast, ↓wc_seq, ↓wc_block, ↓wc_scope, ↓wc_condL, ↓wc_region, ↓wr_cons, ↓wr_consgL, ↓wr_nil, ↓wo_pickL, ↓wo_callf, ↓wc_exit, ↓wc_ret, ↓wc_skip, ↓wc_wl, wo_some, wo_none, wo_ite, opQ_eq, seqQ_normal, seqQ_exit, seqQ_ret, blockQ_normal, blockQ_exit, blockQ_ret, iterQ_normal, iterQ_exit, iterQ_ret, retQ_normal, retQ_ret, retQ_exit, pickC_true, pickC_false, pickO_true, pickO_false, gstep_tt, gstep_ff, gstep_tf, gstep_ft, gstep_skip, int_bne, int_beq, decide_not, Nat.reduceAdd, Nat.reduceMul, Nat.reduceSub, Nat.reducePow, Nat.reduceLT, Nat.reduceLeDiff, Nat.reduceEqDiff, Int.reduceToNat, Int.reduceAdd, Int.reduceSub, Int.reduceNeg, Int.reduceMul, Int.reduceLT, Int.reduceLE, Int.reduceEq, le_max, ↓wo_build, ↓wo_buildSlice, evParts, ↓reduceIte, planIds, hasExt, cntFs, idxFs, clnFs, ovlFs, List.contains_cons, List.contains_nil, List.any_cons, List.any_nil, Nat.reduceBEq, setC, List.length_set, decide_eq_true_eq, decide_eq_false_iff_not, true_implies, false_implies, forall_const, reduceCtorEq, eq_self, Int.natCast_nonneg, Int.toNat_natCast, Int.ofNat_lt, D.int.injEq, Option.some.injEq, Nat.zero_add, Nat.add_zero, bne_iff_ne, bne_eq_false_iff_eq, beq_iff_eq, beq_eq_false_iff_ne, gt_iff_lt, ne_eq, not_true_eq_false, not_false_eq_true, planIds, hasExt, cntFs, idxFs, clnFs, ovlFs, List.contains_cons, List.contains_nil, List.any_cons, List.any_nil, Nat.reduceBEq, Nat.reduceMul, Nat.reduceAdd, ↓reduceIte, hal, h0, h2, h3, h8, h9, h10, hX]
    · rw [hko] at hX
      simp (maxSteps := 1000000) (disch := omega) only [push_cast, ↓wc_seq, ↓wc_block, ↓wc_scope, ↓wc_condL, ↓wc_region, ↓wr_cons, ↓wr_consgL, ↓wr_nil, ↓wo_pickL, ↓wo_callf, ↓wc_exit, ↓wc_ret, ↓wc_skip, ↓wc_wl, wo_some, wo_none, wo_ite, opQ_eq, seqQ_normal, seqQ_exit, seqQ_ret, blockQ_normal, blockQ_exit, blockQ_ret, iterQ_normal, iterQ_exit, iterQ_ret, retQ_normal, retQ_ret, retQ_exit, pickC_true, pickC_false, pickO_true, pickO_false, gstep_tt, gstep_ff, gstep_tf, gstep_ft, gstep_skip, int_bne, int_beq, decide_not, Nat.reduceAdd, Nat.reduceMul, Nat.reduceSub, Nat.reducePow, Nat.reduceLT, Nat.reduceLeDiff, Nat.reduceEqDiff, Int.reduceToNat, Int.reduceAdd, Int.reduceSub, Int.reduceNeg, Int.reduceMul, Int.reduceLT, Int.reduceLE, Int.reduceEq, le_max, ↓wo_build, ↓wo_buildSlice, evParts, ↓reduceIte, planIds, hasExt, cntFs, idxFs, clnFs, ovlFs, List.contains_cons, List.contains_nil, List.any_cons, List.any_nil, Nat.reduceBEq, setC, List.length_set, decide_eq_true_eq, decide_eq_false_iff_not, true_implies, false_implies, forall_const, reduceCtorEq, eq_self, Int.natCast_nonneg, Int.toNat_natCast, Int.ofNat_lt, D.int.injEq, Option.some.injEq, Nat.zero_add, Nat.add_zero, bne_iff_ne, bne_eq_false_iff_eq, beq_iff_eq, beq_eq_false_iff_ne, gt_iff_lt, ne_eq, not_true_eq_false, not_false_eq_true, planIds, hasExt, cntFs, idxFs, clnFs, ovlFs, List.contains_cons, List.contains_nil, List.any_cons, List.any_nil, Nat.reduceBEq, Nat.reduceMul, Nat.reduceAdd, ↓reduceIte, hal, h0, h2, h3, h8, h9, h10, hX, go']
  clear hal h0 h2 h3 h8 h9 h10 a
  rintro a T' ⟨rfl, hal, h0, h2, h3, h8, h9, h10⟩
  refine wc_scut (fun a T => T = T' ∧ a.length = 141 ∧ a[0]? = some (.loc X 0 0) ∧ a[2]? = some (.int .i64 i) ∧ a[3]? = some (.loc q 0 0) ∧ a[4]? = some (.int .i64 p.length) ∧ a[8]? = some (sgD) ∧ a[9]? = some (.int .i64 segs.length) ∧ a[10]? = some (.int .i64 i)) ?_ ?_
  · have hX := hI.good.row
    unfold xRow at hX
    rcases hI.good.sh with ⟨hdp, hp0, -⟩ | ⟨kp, ks, hdp, hds⟩
    · rw [hdp] at hX
      simp (maxSteps := 1000000) (disch := omega) only [push_cast, ↓wc_seq, ↓wc_block, ↓wc_scope, ↓wc_condL, ↓wc_region, ↓wr_cons, ↓wr_consgL, ↓wr_nil, ↓wo_pickL, ↓wo_callf, ↓wc_exit, ↓wc_ret, ↓wc_skip, ↓wc_wl, wo_some, wo_none, wo_ite, opQ_eq, seqQ_normal, seqQ_exit, seqQ_ret, blockQ_normal, blockQ_exit, blockQ_ret, iterQ_normal, iterQ_exit, iterQ_ret, retQ_normal, retQ_ret, retQ_exit, pickC_true, pickC_false, pickO_true, pickO_false, gstep_tt, gstep_ff, gstep_tf, gstep_ft, gstep_skip, int_bne, int_beq, decide_not, Nat.reduceAdd, Nat.reduceMul, Nat.reduceSub, Nat.reducePow, Nat.reduceLT, Nat.reduceLeDiff, Nat.reduceEqDiff, Int.reduceToNat, Int.reduceAdd, Int.reduceSub, Int.reduceNeg, Int.reduceMul, Int.reduceLT, Int.reduceLE, Int.reduceEq, le_max, ↓wo_build, ↓wo_buildSlice, evParts, ↓reduceIte, planIds, hasExt, cntFs, idxFs, clnFs, ovlFs, List.contains_cons, List.contains_nil, List.any_cons, List.any_nil, Nat.reduceBEq, setC, List.length_set, decide_eq_true_eq, decide_eq_false_iff_not, true_implies, false_implies, forall_const, reduceCtorEq, eq_self, Int.natCast_nonneg, Int.toNat_natCast, Int.ofNat_lt, D.int.injEq, Option.some.injEq, Nat.zero_add, Nat.add_zero, bne_iff_ne, bne_eq_false_iff_eq, beq_iff_eq, beq_eq_false_iff_ne, gt_iff_lt, ne_eq, not_true_eq_false, not_false_eq_true, planIds, hasExt, cntFs, idxFs, clnFs, ovlFs, List.contains_cons, List.contains_nil, List.any_cons, List.any_nil, Nat.reduceBEq, Nat.reduceMul, Nat.reduceAdd, ↓reduceIte, hal, h0, h2, h3, h8, h9, h10, hX, hp0, List.length_nil, Int.natCast_zero]
    · rw [hdp] at hX
      simp (maxSteps := 1000000) (disch := omega) only [push_cast, ↓wc_seq, ↓wc_block, ↓wc_scope, ↓wc_condL, ↓wc_region, ↓wr_cons, ↓wr_consgL, ↓wr_nil, ↓wo_pickL, ↓wo_callf, ↓wc_exit, ↓wc_ret, ↓wc_skip, ↓wc_wl, wo_some, wo_none, wo_ite, opQ_eq, seqQ_normal, seqQ_exit, seqQ_ret, blockQ_normal, blockQ_exit, blockQ_ret, iterQ_normal, iterQ_exit, iterQ_ret, retQ_normal, retQ_ret, retQ_exit, pickC_true, pickC_false, pickO_true, pickO_false, gstep_tt, gstep_ff, gstep_tf, gstep_ft, gstep_skip, int_bne, int_beq, decide_not, Nat.reduceAdd, Nat.reduceMul, Nat.reduceSub, Nat.reducePow, Nat.reduceLT, Nat.reduceLeDiff, Nat.reduceEqDiff, Int.reduceToNat, Int.reduceAdd, Int.reduceSub, Int.reduceNeg, Int.reduceMul, Int.reduceLT, Int.reduceLE, Int.reduceEq, le_max, ↓wo_build, ↓wo_buildSlice, evParts, ↓reduceIte, planIds, hasExt, cntFs, idxFs, clnFs, ovlFs, List.contains_cons, List.contains_nil, List.any_cons, List.any_nil, Nat.reduceBEq, setC, List.length_set, decide_eq_true_eq, decide_eq_false_iff_not, true_implies, false_implies, forall_const, reduceCtorEq, eq_self, Int.natCast_nonneg, Int.toNat_natCast, Int.ofNat_lt, D.int.injEq, Option.some.injEq, Nat.zero_add, Nat.add_zero, bne_iff_ne, bne_eq_false_iff_eq, beq_iff_eq, beq_eq_false_iff_ne, gt_iff_lt, ne_eq, not_true_eq_false, not_false_eq_true, planIds, hasExt, cntFs, idxFs, clnFs, ovlFs, List.contains_cons, List.contains_nil, List.any_cons, List.any_nil, Nat.reduceBEq, Nat.reduceMul, Nat.reduceAdd, ↓reduceIte, hal, h0, h2, h3, h8, h9, h10, hX]
  clear hal h0 h2 h3 h8 h9 h10 a
  rintro a T' ⟨rfl, hal, h0, h2, h3, h4, h8, h9, h10⟩
  have hpl : p.length ≤ 3 := by omega
  have hpp : ((p.length : Int) < (p.length : Int) + 1) := by omega
  obtain ⟨ls, hls⟩ : ∃ ls, (stopsL fr segs p)[p.length]? = some ls := ⟨(stopsL fr segs p)[p.length]'(by rw [stops_len]; omega), by simp⟩
  have hcand : cand l segs fr p i = ((s.f.toList == ls.toList) && !((stopsL fr segs p).any fun x => s.t.toList == x.toList) && lastFit l segs p s) := by
    unfold cand
    rw [hs, hls]; rfl
  have cS := fun st => contS_c (n := n) (t := s.t) hI.good.stop (by rw [stops_len]; omega) (by rw [stops_len]; omega) st
  have stopAt : (p = [] ∧ z1.dp = .nils ∧ z1.ds = .sl 1 [[.str ls]] true) ∨ ∃ kp ks ep es, z1.dp = .os kp 0 p.length false ∧ z1.ds = .os ks 0 (p.length + 1) false ∧ T'[kp]? = some (.row 1 ep) ∧ T'[ks]? = some (.row 1 es) ∧ es[p.length]? = some [.str ls] ∧ (∀ (x : Nat) j, p[x]? = some j → ep[x]? = some [.int .i64 j]) := by
    rcases hI.good.sh with ⟨hdp, hp0, f, hds, hst⟩ | ⟨kp, ks, hdp, hds⟩
    · left
      subst hp0
      rw [hst] at hls
      simp at hls
      subst hls
      exact ⟨rfl, hdp, hds⟩
    · right
      have q1 := hI.good.path
      have q2 := hI.good.stop
      rw [hdp] at q1
      rw [hds] at q2
      obtain ⟨-, ep, a1, a2, a3⟩ := q1.os
      obtain ⟨-, es, b1, b2, b3⟩ := q2.os
      refine ⟨kp, ks, ep, es, hdp, by rw [hds, stops_len], a1, b1, take_at b2 hls rfl, fun x j hx => take_at a2 hx rfl⟩
  generalize hany : ((stopsL fr segs p).any fun x => s.t.toList == x.toList) = any at hcand cS
  cases e1 : (s.f.toList == ls.toList)
  · rw [e1] at hcand
    have hX := hI.good.row
    unfold xRow at hX
    rcases stopAt with ⟨hp0, hdp, hds⟩ | ⟨kp, ks, ep, es, hdp, hds, -, hes, hesl, -⟩
    · rw [hdp, hds] at hX
      rw [hds] at cS
      subst hp0
      simp only [List.length_nil, Int.natCast_zero] at h4
      simp (maxSteps := 1000000) (disch := omega) only [push_cast, ↓wc_seq, ↓wc_block, ↓wc_scope, ↓wc_condL, ↓wc_region, ↓wr_cons, ↓wr_consgL, ↓wr_nil, ↓wo_pickL, ↓wo_callf, ↓wc_exit, ↓wc_ret, ↓wc_skip, ↓wc_wl, wo_some, wo_none, wo_ite, opQ_eq, seqQ_normal, seqQ_exit, seqQ_ret, blockQ_normal, blockQ_exit, blockQ_ret, iterQ_normal, iterQ_exit, iterQ_ret, retQ_normal, retQ_ret, retQ_exit, pickC_true, pickC_false, pickO_true, pickO_false, gstep_tt, gstep_ff, gstep_tf, gstep_ft, gstep_skip, int_bne, int_beq, decide_not, Nat.reduceAdd, Nat.reduceMul, Nat.reduceSub, Nat.reducePow, Nat.reduceLT, Nat.reduceLeDiff, Nat.reduceEqDiff, Int.reduceToNat, Int.reduceAdd, Int.reduceSub, Int.reduceNeg, Int.reduceMul, Int.reduceLT, Int.reduceLE, Int.reduceEq, le_max, ↓wo_build, ↓wo_buildSlice, evParts, ↓reduceIte, planIds, hasExt, cntFs, idxFs, clnFs, ovlFs, List.contains_cons, List.contains_nil, List.any_cons, List.any_nil, Nat.reduceBEq, setC, List.length_set, decide_eq_true_eq, decide_eq_false_iff_not, true_implies, false_implies, forall_const, reduceCtorEq, eq_self, Int.natCast_nonneg, Int.toNat_natCast, Int.ofNat_lt, D.int.injEq, Option.some.injEq, Nat.zero_add, Nat.add_zero, bne_iff_ne, bne_eq_false_iff_eq, beq_iff_eq, beq_eq_false_iff_ne, gt_iff_lt, ne_eq, not_true_eq_false, not_false_eq_true, planIds, hasExt, cntFs, idxFs, clnFs, ovlFs, List.contains_cons, List.contains_nil, List.any_cons, List.any_nil, Nat.reduceBEq, Nat.reduceMul, Nat.reduceAdd, ↓reduceIte, hal, h0, h2, h3, h4, h8, h9, h10, hX, hqT, e1, hw2, Int.natCast_add, Int.natCast_one]
      exact ⟨hlt, z1, hI.skip (by rw [hcand]; rfl)⟩
    · rw [hds] at hX cS
      simp (maxSteps := 1000000) (disch := omega) only [push_cast, ↓wc_seq, ↓wc_block, ↓wc_scope, ↓wc_condL, ↓wc_region, ↓wr_cons, ↓wr_consgL, ↓wr_nil, ↓wo_pickL, ↓wo_callf, ↓wc_exit, ↓wc_ret, ↓wc_skip, ↓wc_wl, wo_some, wo_none, wo_ite, opQ_eq, seqQ_normal, seqQ_exit, seqQ_ret, blockQ_normal, blockQ_exit, blockQ_ret, iterQ_normal, iterQ_exit, iterQ_ret, retQ_normal, retQ_ret, retQ_exit, pickC_true, pickC_false, pickO_true, pickO_false, gstep_tt, gstep_ff, gstep_tf, gstep_ft, gstep_skip, int_bne, int_beq, decide_not, Nat.reduceAdd, Nat.reduceMul, Nat.reduceSub, Nat.reducePow, Nat.reduceLT, Nat.reduceLeDiff, Nat.reduceEqDiff, Int.reduceToNat, Int.reduceAdd, Int.reduceSub, Int.reduceNeg, Int.reduceMul, Int.reduceLT, Int.reduceLE, Int.reduceEq, le_max, ↓wo_build, ↓wo_buildSlice, evParts, ↓reduceIte, planIds, hasExt, cntFs, idxFs, clnFs, ovlFs, List.contains_cons, List.contains_nil, List.any_cons, List.any_nil, Nat.reduceBEq, setC, List.length_set, decide_eq_true_eq, decide_eq_false_iff_not, true_implies, false_implies, forall_const, reduceCtorEq, eq_self, Int.natCast_nonneg, Int.toNat_natCast, Int.ofNat_lt, D.int.injEq, Option.some.injEq, Nat.zero_add, Nat.add_zero, bne_iff_ne, bne_eq_false_iff_eq, beq_iff_eq, beq_eq_false_iff_ne, gt_iff_lt, ne_eq, not_true_eq_false, not_false_eq_true, planIds, hasExt, cntFs, idxFs, clnFs, ovlFs, List.contains_cons, List.contains_nil, List.any_cons, List.any_nil, Nat.reduceBEq, Nat.reduceMul, Nat.reduceAdd, ↓reduceIte, hal, h0, h2, h3, h4, h8, h9, h10, hX, hqT, hes, hesl, hpp, e1, hw2, Int.natCast_add, Int.natCast_one]
      exact ⟨hlt, z1, hI.skip (by rw [hcand]; rfl)⟩
  rw [e1] at hcand
  cases any
  case true =>
    have hX := hI.good.row
    unfold xRow at hX
    rcases stopAt with ⟨hp0, hdp, hds⟩ | ⟨kp, ks, ep, es, hdp, hds, -, hes, hesl, -⟩
    · rw [hdp, hds] at hX
      rw [hds] at cS
      subst hp0
      simp only [List.length_nil, Int.natCast_zero] at h4
      simp (maxSteps := 1000000) (disch := omega) only [push_cast, ↓wc_seq, ↓wc_block, ↓wc_scope, ↓wc_condL, ↓wc_region, ↓wr_cons, ↓wr_consgL, ↓wr_nil, ↓wo_pickL, ↓wo_callf, ↓wc_exit, ↓wc_ret, ↓wc_skip, ↓wc_wl, wo_some, wo_none, wo_ite, opQ_eq, seqQ_normal, seqQ_exit, seqQ_ret, blockQ_normal, blockQ_exit, blockQ_ret, iterQ_normal, iterQ_exit, iterQ_ret, retQ_normal, retQ_ret, retQ_exit, pickC_true, pickC_false, pickO_true, pickO_false, gstep_tt, gstep_ff, gstep_tf, gstep_ft, gstep_skip, int_bne, int_beq, decide_not, Nat.reduceAdd, Nat.reduceMul, Nat.reduceSub, Nat.reducePow, Nat.reduceLT, Nat.reduceLeDiff, Nat.reduceEqDiff, Int.reduceToNat, Int.reduceAdd, Int.reduceSub, Int.reduceNeg, Int.reduceMul, Int.reduceLT, Int.reduceLE, Int.reduceEq, le_max, ↓wo_build, ↓wo_buildSlice, evParts, ↓reduceIte, planIds, hasExt, cntFs, idxFs, clnFs, ovlFs, List.contains_cons, List.contains_nil, List.any_cons, List.any_nil, Nat.reduceBEq, setC, List.length_set, decide_eq_true_eq, decide_eq_false_iff_not, true_implies, false_implies, forall_const, reduceCtorEq, eq_self, Int.natCast_nonneg, Int.toNat_natCast, Int.ofNat_lt, D.int.injEq, Option.some.injEq, Nat.zero_add, Nat.add_zero, bne_iff_ne, bne_eq_false_iff_eq, beq_iff_eq, beq_eq_false_iff_ne, gt_iff_lt, ne_eq, not_true_eq_false, not_false_eq_true, planIds, hasExt, cntFs, idxFs, clnFs, ovlFs, List.contains_cons, List.contains_nil, List.any_cons, List.any_nil, Nat.reduceBEq, Nat.reduceMul, Nat.reduceAdd, ↓reduceIte, hal, h0, h2, h3, h4, h8, h9, h10, hX, hqT, e1, cS, hw2, Int.natCast_add, Int.natCast_one]
      exact ⟨hlt, z1, hI.skip (by rw [hcand]; rfl)⟩
    · rw [hds] at hX cS
      simp (maxSteps := 1000000) (disch := omega) only [push_cast, ↓wc_seq, ↓wc_block, ↓wc_scope, ↓wc_condL, ↓wc_region, ↓wr_cons, ↓wr_consgL, ↓wr_nil, ↓wo_pickL, ↓wo_callf, ↓wc_exit, ↓wc_ret, ↓wc_skip, ↓wc_wl, wo_some, wo_none, wo_ite, opQ_eq, seqQ_normal, seqQ_exit, seqQ_ret, blockQ_normal, blockQ_exit, blockQ_ret, iterQ_normal, iterQ_exit, iterQ_ret, retQ_normal, retQ_ret, retQ_exit, pickC_true, pickC_false, pickO_true, pickO_false, gstep_tt, gstep_ff, gstep_tf, gstep_ft, gstep_skip, int_bne, int_beq, decide_not, Nat.reduceAdd, Nat.reduceMul, Nat.reduceSub, Nat.reducePow, Nat.reduceLT, Nat.reduceLeDiff, Nat.reduceEqDiff, Int.reduceToNat, Int.reduceAdd, Int.reduceSub, Int.reduceNeg, Int.reduceMul, Int.reduceLT, Int.reduceLE, Int.reduceEq, le_max, ↓wo_build, ↓wo_buildSlice, evParts, ↓reduceIte, planIds, hasExt, cntFs, idxFs, clnFs, ovlFs, List.contains_cons, List.contains_nil, List.any_cons, List.any_nil, Nat.reduceBEq, setC, List.length_set, decide_eq_true_eq, decide_eq_false_iff_not, true_implies, false_implies, forall_const, reduceCtorEq, eq_self, Int.natCast_nonneg, Int.toNat_natCast, Int.ofNat_lt, D.int.injEq, Option.some.injEq, Nat.zero_add, Nat.add_zero, bne_iff_ne, bne_eq_false_iff_eq, beq_iff_eq, beq_eq_false_iff_ne, gt_iff_lt, ne_eq, not_true_eq_false, not_false_eq_true, planIds, hasExt, cntFs, idxFs, clnFs, ovlFs, List.contains_cons, List.contains_nil, List.any_cons, List.any_nil, Nat.reduceBEq, Nat.reduceMul, Nat.reduceAdd, ↓reduceIte, hal, h0, h2, h3, h4, h8, h9, h10, hX, hqT, hes, hesl, hpp, e1, cS, hw2, Int.natCast_add, Int.natCast_one]
      exact ⟨hlt, z1, hI.skip (by rw [hcand]; rfl)⟩
  refine wc_scut (fun a T => T = T' ∧ a.length = 141 ∧ a[0]? = some (.loc X 0 0) ∧ a[2]? = some (.int .i64 i) ∧ a[3]? = some (.loc q 0 0) ∧ a[4]? = some (.int .i64 p.length) ∧ a[8]? = some (sgD) ∧ a[9]? = some (.int .i64 segs.length) ∧ a[10]? = some (.int .i64 i)) ?_ ?_
  ·
    have hX := hI.good.row
    unfold xRow at hX
    rcases stopAt with ⟨hp0, hdp, hds⟩ | ⟨kp, ks, ep, es, hdp, hds, -, hes, hesl, -⟩
    · rw [hdp, hds] at hX
      rw [hds] at cS
      subst hp0
      simp only [List.length_nil, Int.natCast_zero] at h4
      simp (maxSteps := 1000000) (disch := omega) only [push_cast, ↓wc_seq, ↓wc_block, ↓wc_scope, ↓wc_condL, ↓wc_region, ↓wr_cons, ↓wr_consgL, ↓wr_nil, ↓wo_pickL, ↓wo_callf, ↓wc_exit, ↓wc_ret, ↓wc_skip, ↓wc_wl, wo_some, wo_none, wo_ite, opQ_eq, seqQ_normal, seqQ_exit, seqQ_ret, blockQ_normal, blockQ_exit, blockQ_ret, iterQ_normal, iterQ_exit, iterQ_ret, retQ_normal, retQ_ret, retQ_exit, pickC_true, pickC_false, pickO_true, pickO_false, gstep_tt, gstep_ff, gstep_tf, gstep_ft, gstep_skip, int_bne, int_beq, decide_not, Nat.reduceAdd, Nat.reduceMul, Nat.reduceSub, Nat.reducePow, Nat.reduceLT, Nat.reduceLeDiff, Nat.reduceEqDiff, Int.reduceToNat, Int.reduceAdd, Int.reduceSub, Int.reduceNeg, Int.reduceMul, Int.reduceLT, Int.reduceLE, Int.reduceEq, le_max, ↓wo_build, ↓wo_buildSlice, evParts, ↓reduceIte, planIds, hasExt, cntFs, idxFs, clnFs, ovlFs, List.contains_cons, List.contains_nil, List.any_cons, List.any_nil, Nat.reduceBEq, setC, List.length_set, decide_eq_true_eq, decide_eq_false_iff_not, true_implies, false_implies, forall_const, reduceCtorEq, eq_self, Int.natCast_nonneg, Int.toNat_natCast, Int.ofNat_lt, D.int.injEq, Option.some.injEq, Nat.zero_add, Nat.add_zero, bne_iff_ne, bne_eq_false_iff_eq, beq_iff_eq, beq_eq_false_iff_ne, gt_iff_lt, ne_eq, not_true_eq_false, not_false_eq_true, planIds, hasExt, cntFs, idxFs, clnFs, ovlFs, List.contains_cons, List.contains_nil, List.any_cons, List.any_nil, Nat.reduceBEq, Nat.reduceMul, Nat.reduceAdd, ↓reduceIte, hal, h0, h2, h3, h4, h8, h9, h10, hX, hqT, e1, cS, hw2, Int.natCast_add, Int.natCast_one]
    · rw [hds] at hX cS
      simp (maxSteps := 1000000) (disch := omega) only [push_cast, ↓wc_seq, ↓wc_block, ↓wc_scope, ↓wc_condL, ↓wc_region, ↓wr_cons, ↓wr_consgL, ↓wr_nil, ↓wo_pickL, ↓wo_callf, ↓wc_exit, ↓wc_ret, ↓wc_skip, ↓wc_wl, wo_some, wo_none, wo_ite, opQ_eq, seqQ_normal, seqQ_exit, seqQ_ret, blockQ_normal, blockQ_exit, blockQ_ret, iterQ_normal, iterQ_exit, iterQ_ret, retQ_normal, retQ_ret, retQ_exit, pickC_true, pickC_false, pickO_true, pickO_false, gstep_tt, gstep_ff, gstep_tf, gstep_ft, gstep_skip, int_bne, int_beq, decide_not, Nat.reduceAdd, Nat.reduceMul, Nat.reduceSub, Nat.reducePow, Nat.reduceLT, Nat.reduceLeDiff, Nat.reduceEqDiff, Int.reduceToNat, Int.reduceAdd, Int.reduceSub, Int.reduceNeg, Int.reduceMul, Int.reduceLT, Int.reduceLE, Int.reduceEq, le_max, ↓wo_build, ↓wo_buildSlice, evParts, ↓reduceIte, planIds, hasExt, cntFs, idxFs, clnFs, ovlFs, List.contains_cons, List.contains_nil, List.any_cons, List.any_nil, Nat.reduceBEq, setC, List.length_set, decide_eq_true_eq, decide_eq_false_iff_not, true_implies, false_implies, forall_const, reduceCtorEq, eq_self, Int.natCast_nonneg, Int.toNat_natCast, Int.ofNat_lt, D.int.injEq, Option.some.injEq, Nat.zero_add, Nat.add_zero, bne_iff_ne, bne_eq_false_iff_eq, beq_iff_eq, beq_eq_false_iff_ne, gt_iff_lt, ne_eq, not_true_eq_false, not_false_eq_true, planIds, hasExt, cntFs, idxFs, clnFs, ovlFs, List.contains_cons, List.contains_nil, List.any_cons, List.any_nil, Nat.reduceBEq, Nat.reduceMul, Nat.reduceAdd, ↓reduceIte, hal, h0, h2, h3, h4, h8, h9, h10, hX, hqT, hes, hesl, hpp, e1, cS, hw2, Int.natCast_add, Int.natCast_one]
  clear hal h0 h2 h3 h4 h8 h9 h10 a
  rintro a T' ⟨rfl, hal, h0, h2, h3, h4, h8, h9, h10⟩
  clear cS
  -- the segment ahead
  have hlf : p ≠ [] → ∃ j0 j sj, p.length = j0 + 1 ∧ p[j0]? = some j ∧ segs[j]? = some sj ∧ lastFit l segs p s = fitB l sj s := fun hne => by
    cases p with
    | nil => exact absurd rfl hne
    | cons u w =>
      have hl : (u :: w).length = w.length + 1 := rfl
      have hj := List.getElem?_eq_getElem (l := u :: w) (i := w.length) (by simp)
      have hjs := hpj _ (List.mem_of_getElem? hj)
      have hsj := List.getElem?_eq_getElem (l := segs) hjs
      refine ⟨w.length, _, _, hl, hj, hsj, ?_⟩
      simp only [lastFit, hl, Nat.add_sub_cancel, hj, hsj]
  cases hF : lastFit l segs p s
  · have hp0 : p ≠ [] := fun e => by rw [e] at hF; simp [lastFit] at hF
    rw [hF] at hcand
    obtain ⟨j0, j, sj, k1, k2, k3, k4⟩ := hlf hp0
    rcases stopAt with ⟨k5, -⟩ | ⟨kp, ks, ep, es, hdp, hds, hep, -, -, hepj⟩
    · exact absurd k5 hp0
    have e3 := hepj j0 j k2
    have hX := hI.good.row
    unfold xRow at hX
    rw [hdp] at hX
    have w1 : IntKind.i64.wrap ((p.length : Int) - 1) = (j0 : Int) := by rw [wrap_ok (by omega) (by omega)]; omega
    have g0 : (0 : Int) < (p.length : Int) := by omega
    have g1 : j0 < p.length := by omega
    have hjl := (List.getElem?_eq_some_iff.1 k3).1
    have nj := hnear sj (List.mem_of_getElem? k3)
    have hsje : sj.enc = [.str sj.c, .int .i64 sj.n, .int .i64 sj.d, .str sj.f, .str sj.t, .int .i64 sj.dep, .int .i64 sj.arr] := rfl
    have cF := fun st => hFit n (by omega) st T' sj s nj ns
    rw [k4] at hF
    rw [hF, hse, hsje] at cF
    rcases hI.seg with ⟨rfl, hse0⟩ | ⟨x, rfl⟩ | ⟨k, rfl, hk⟩
    · rw [hse0] at hs; simp at hs
    · simp (maxSteps := 1000000) (disch := omega) only [push_cast, ↓wc_seq, ↓wc_block, ↓wc_scope, ↓wc_condL, ↓wc_region, ↓wr_cons, ↓wr_consgL, ↓wr_nil, ↓wo_pickL, ↓wo_callf, ↓wc_exit, ↓wc_ret, ↓wc_skip, ↓wc_wl, wo_some, wo_none, wo_ite, opQ_eq, seqQ_normal, seqQ_exit, seqQ_ret, blockQ_normal, blockQ_exit, blockQ_ret, iterQ_normal, iterQ_exit, iterQ_ret, retQ_normal, retQ_ret, retQ_exit, pickC_true, pickC_false, pickO_true, pickO_false, gstep_tt, gstep_ff, gstep_tf, gstep_ft, gstep_skip, int_bne, int_beq, decide_not, Nat.reduceAdd, Nat.reduceMul, Nat.reduceSub, Nat.reducePow, Nat.reduceLT, Nat.reduceLeDiff, Nat.reduceEqDiff, Int.reduceToNat, Int.reduceAdd, Int.reduceSub, Int.reduceNeg, Int.reduceMul, Int.reduceLT, Int.reduceLE, Int.reduceEq, le_max, ↓wo_build, ↓wo_buildSlice, evParts, ↓reduceIte, planIds, hasExt, cntFs, idxFs, clnFs, ovlFs, List.contains_cons, List.contains_nil, List.any_cons, List.any_nil, Nat.reduceBEq, setC, List.length_set, decide_eq_true_eq, decide_eq_false_iff_not, true_implies, false_implies, forall_const, reduceCtorEq, eq_self, Int.natCast_nonneg, Int.toNat_natCast, Int.ofNat_lt, D.int.injEq, Option.some.injEq, Nat.zero_add, Nat.add_zero, bne_iff_ne, bne_eq_false_iff_eq, beq_iff_eq, beq_eq_false_iff_ne, gt_iff_lt, ne_eq, not_true_eq_false, not_false_eq_true, planIds, hasExt, cntFs, idxFs, clnFs, ovlFs, List.contains_cons, List.contains_nil, List.any_cons, List.any_nil, Nat.reduceBEq, Nat.reduceMul, Nat.reduceAdd, ↓reduceIte, hal, h0, h2, h3, h4, h8, h9, h10, hX, hqT, hep, e3, w1, g0, g1, gt_iff_lt, hjl, k3, hsje, cF, List.getElem?_map, List.length_map, hw2, Int.natCast_add, Int.natCast_one]
      exact ⟨hlt, z1, hI.skip hcand⟩
    · simp (maxSteps := 1000000) (disch := omega) only [push_cast, ↓wc_seq, ↓wc_block, ↓wc_scope, ↓wc_condL, ↓wc_region, ↓wr_cons, ↓wr_consgL, ↓wr_nil, ↓wo_pickL, ↓wo_callf, ↓wc_exit, ↓wc_ret, ↓wc_skip, ↓wc_wl, wo_some, wo_none, wo_ite, opQ_eq, seqQ_normal, seqQ_exit, seqQ_ret, blockQ_normal, blockQ_exit, blockQ_ret, iterQ_normal, iterQ_exit, iterQ_ret, retQ_normal, retQ_ret, retQ_exit, pickC_true, pickC_false, pickO_true, pickO_false, gstep_tt, gstep_ff, gstep_tf, gstep_ft, gstep_skip, int_bne, int_beq, decide_not, Nat.reduceAdd, Nat.reduceMul, Nat.reduceSub, Nat.reducePow, Nat.reduceLT, Nat.reduceLeDiff, Nat.reduceEqDiff, Int.reduceToNat, Int.reduceAdd, Int.reduceSub, Int.reduceNeg, Int.reduceMul, Int.reduceLT, Int.reduceLE, Int.reduceEq, le_max, ↓wo_build, ↓wo_buildSlice, evParts, ↓reduceIte, planIds, hasExt, cntFs, idxFs, clnFs, ovlFs, List.contains_cons, List.contains_nil, List.any_cons, List.any_nil, Nat.reduceBEq, setC, List.length_set, decide_eq_true_eq, decide_eq_false_iff_not, true_implies, false_implies, forall_const, reduceCtorEq, eq_self, Int.natCast_nonneg, Int.toNat_natCast, Int.ofNat_lt, D.int.injEq, Option.some.injEq, Nat.zero_add, Nat.add_zero, bne_iff_ne, bne_eq_false_iff_eq, beq_iff_eq, beq_eq_false_iff_ne, gt_iff_lt, ne_eq, not_true_eq_false, not_false_eq_true, planIds, hasExt, cntFs, idxFs, clnFs, ovlFs, List.contains_cons, List.contains_nil, List.any_cons, List.any_nil, Nat.reduceBEq, Nat.reduceMul, Nat.reduceAdd, ↓reduceIte, hal, h0, h2, h3, h4, h8, h9, h10, hX, hqT, hep, e3, w1, g0, g1, gt_iff_lt, hjl, k3, hsje, cF, hk, List.getElem?_map, hw2, Int.natCast_add, Int.natCast_one]
      exact ⟨hlt, z1, hI.skip hcand⟩
  rw [hF] at hcand
  have hcT : cand l segs fr p i = true := hcand
  refine wc_scut (fun a T => T = T' ∧ a.length = 141 ∧ a[0]? = some (.loc X 0 0) ∧ a[2]? = some (.int .i64 i) ∧ a[3]? = some (.loc q 0 0) ∧ a[4]? = some (.int .i64 p.length) ∧ a[8]? = some (sgD) ∧ a[9]? = some (.int .i64 segs.length) ∧ a[10]? = some (.int .i64 i)) ?_ ?_
  · by_cases hp0 : p = []
    · subst hp0
      simp only [List.length_nil, Int.natCast_zero] at h4
      simp (maxSteps := 1000000) (disch := omega) only [push_cast, ↓wc_seq, ↓wc_block, ↓wc_scope, ↓wc_condL, ↓wc_region, ↓wr_cons, ↓wr_consgL, ↓wr_nil, ↓wo_pickL, ↓wo_callf, ↓wc_exit, ↓wc_ret, ↓wc_skip, ↓wc_wl, wo_some, wo_none, wo_ite, opQ_eq, seqQ_normal, seqQ_exit, seqQ_ret, blockQ_normal, blockQ_exit, blockQ_ret, iterQ_normal, iterQ_exit, iterQ_ret, retQ_normal, retQ_ret, retQ_exit, pickC_true, pickC_false, pickO_true, pickO_false, gstep_tt, gstep_ff, gstep_tf, gstep_ft, gstep_skip, int_bne, int_beq, decide_not, Nat.reduceAdd, Nat.reduceMul, Nat.reduceSub, Nat.reducePow, Nat.reduceLT, Nat.reduceLeDiff, Nat.reduceEqDiff, Int.reduceToNat, Int.reduceAdd, Int.reduceSub, Int.reduceNeg, Int.reduceMul, Int.reduceLT, Int.reduceLE, Int.reduceEq, le_max, ↓wo_build, ↓wo_buildSlice, evParts, ↓reduceIte, planIds, hasExt, cntFs, idxFs, clnFs, ovlFs, List.contains_cons, List.contains_nil, List.any_cons, List.any_nil, Nat.reduceBEq, setC, List.length_set, decide_eq_true_eq, decide_eq_false_iff_not, true_implies, false_implies, forall_const, reduceCtorEq, eq_self, Int.natCast_nonneg, Int.toNat_natCast, Int.ofNat_lt, D.int.injEq, Option.some.injEq, Nat.zero_add, Nat.add_zero, bne_iff_ne, bne_eq_false_iff_eq, beq_iff_eq, beq_eq_false_iff_ne, gt_iff_lt, ne_eq, not_true_eq_false, not_false_eq_true, planIds, hasExt, cntFs, idxFs, clnFs, ovlFs, List.contains_cons, List.contains_nil, List.any_cons, List.any_nil, Nat.reduceBEq, Nat.reduceMul, Nat.reduceAdd, ↓reduceIte, hal, h0, h2, h3, h4, h8, h9, h10, gt_iff_lt, Int.lt_irrefl]
    obtain ⟨j0, j, sj, k1, k2, k3, k4⟩ := hlf hp0
    rcases stopAt with ⟨k5, -⟩ | ⟨kp, ks, ep, es, hdp, hds, hep, -, -, hepj⟩
    · exact absurd k5 hp0
    have e3 := hepj j0 j k2
    have hX := hI.good.row
    unfold xRow at hX
    rw [hdp] at hX
    have w1 : IntKind.i64.wrap ((p.length : Int) - 1) = (j0 : Int) := by rw [wrap_ok (by omega) (by omega)]; omega
    have g0 : (0 : Int) < (p.length : Int) := by omega
    have g1 : j0 < p.length := by omega
    have hjl := (List.getElem?_eq_some_iff.1 k3).1
    have nj := hnear sj (List.mem_of_getElem? k3)
    have hsje : sj.enc = [.str sj.c, .int .i64 sj.n, .int .i64 sj.d, .str sj.f, .str sj.t, .int .i64 sj.dep, .int .i64 sj.arr] := rfl
    have cF := fun st => hFit n (by omega) st T' sj s nj ns
    rw [k4] at hF
    rw [hF, hse, hsje] at cF
    rcases hI.seg with ⟨rfl, hse0⟩ | ⟨x, rfl⟩ | ⟨k, rfl, hk⟩
    · rw [hse0] at hs; simp at hs
    · simp (maxSteps := 1000000) (disch := omega) only [push_cast, ↓wc_seq, ↓wc_block, ↓wc_scope, ↓wc_condL, ↓wc_region, ↓wr_cons, ↓wr_consgL, ↓wr_nil, ↓wo_pickL, ↓wo_callf, ↓wc_exit, ↓wc_ret, ↓wc_skip, ↓wc_wl, wo_some, wo_none, wo_ite, opQ_eq, seqQ_normal, seqQ_exit, seqQ_ret, blockQ_normal, blockQ_exit, blockQ_ret, iterQ_normal, iterQ_exit, iterQ_ret, retQ_normal, retQ_ret, retQ_exit, pickC_true, pickC_false, pickO_true, pickO_false, gstep_tt, gstep_ff, gstep_tf, gstep_ft, gstep_skip, int_bne, int_beq, decide_not, Nat.reduceAdd, Nat.reduceMul, Nat.reduceSub, Nat.reducePow, Nat.reduceLT, Nat.reduceLeDiff, Nat.reduceEqDiff, Int.reduceToNat, Int.reduceAdd, Int.reduceSub, Int.reduceNeg, Int.reduceMul, Int.reduceLT, Int.reduceLE, Int.reduceEq, le_max, ↓wo_build, ↓wo_buildSlice, evParts, ↓reduceIte, planIds, hasExt, cntFs, idxFs, clnFs, ovlFs, List.contains_cons, List.contains_nil, List.any_cons, List.any_nil, Nat.reduceBEq, setC, List.length_set, decide_eq_true_eq, decide_eq_false_iff_not, true_implies, false_implies, forall_const, reduceCtorEq, eq_self, Int.natCast_nonneg, Int.toNat_natCast, Int.ofNat_lt, D.int.injEq, Option.some.injEq, Nat.zero_add, Nat.add_zero, bne_iff_ne, bne_eq_false_iff_eq, beq_iff_eq, beq_eq_false_iff_ne, gt_iff_lt, ne_eq, not_true_eq_false, not_false_eq_true, planIds, hasExt, cntFs, idxFs, clnFs, ovlFs, List.contains_cons, List.contains_nil, List.any_cons, List.any_nil, Nat.reduceBEq, Nat.reduceMul, Nat.reduceAdd, ↓reduceIte, hal, h0, h2, h3, h4, h8, h9, h10, hX, hqT, hep, e3, w1, g0, g1, gt_iff_lt, hjl, k3, hsje, cF, List.getElem?_map, List.length_map, hw2, Int.natCast_add, Int.natCast_one]
    · simp (maxSteps := 1000000) (disch := omega) only [push_cast, ↓wc_seq, ↓wc_block, ↓wc_scope, ↓wc_condL, ↓wc_region, ↓wr_cons, ↓wr_consgL, ↓wr_nil, ↓wo_pickL, ↓wo_callf, ↓wc_exit, ↓wc_ret, ↓wc_skip, ↓wc_wl, wo_some, wo_none, wo_ite, opQ_eq, seqQ_normal, seqQ_exit, seqQ_ret, blockQ_normal, blockQ_exit, blockQ_ret, iterQ_normal, iterQ_exit, iterQ_ret, retQ_normal, retQ_ret, retQ_exit, pickC_true, pickC_false, pickO_true, pickO_false, gstep_tt, gstep_ff, gstep_tf, gstep_ft, gstep_skip, int_bne, int_beq, decide_not, Nat.reduceAdd, Nat.reduceMul, Nat.reduceSub, Nat.reducePow, Nat.reduceLT, Nat.reduceLeDiff, Nat.reduceEqDiff, Int.reduceToNat, Int.reduceAdd, Int.reduceSub, Int.reduceNeg, Int.reduceMul, Int.reduceLT, Int.reduceLE, Int.reduceEq, le_max, ↓wo_build, ↓wo_buildSlice, evParts, ↓reduceIte, planIds, hasExt, cntFs, idxFs, clnFs, ovlFs, List.contains_cons, List.contains_nil, List.any_cons, List.any_nil, Nat.reduceBEq, setC, List.length_set, decide_eq_true_eq, decide_eq_false_iff_not, true_implies, false_implies, forall_const, reduceCtorEq, eq_self, Int.natCast_nonneg, Int.toNat_natCast, Int.ofNat_lt, D.int.injEq, Option.some.injEq, Nat.zero_add, Nat.add_zero, bne_iff_ne, bne_eq_false_iff_eq, beq_iff_eq, beq_eq_false_iff_ne, gt_iff_lt, ne_eq, not_true_eq_false, not_false_eq_true, planIds, hasExt, cntFs, idxFs, clnFs, ovlFs, List.contains_cons, List.contains_nil, List.any_cons, List.any_nil, Nat.reduceBEq, Nat.reduceMul, Nat.reduceAdd, ↓reduceIte, hal, h0, h2, h3, h4, h8, h9, h10, hX, hqT, hep, e3, w1, g0, g1, gt_iff_lt, hjl, k3, hsje, cF, hk, List.getElem?_map, hw2, Int.natCast_add, Int.natCast_one]
  clear hal h0 h2 h3 h4 h8 h9 h10 a
  rintro a T' ⟨rfl, hal, h0, h2, h3, h4, h8, h9, h10⟩
  -- the journey is continued
  obtain ⟨kp2, W1, ks2, W2, a1, a2, x1, x2, kk, g2, s2⟩ := hI.good.go (by omega) (by rw [stops_len]; omega) i s.t
  rw [stops_len] at a2 g2 s2
  have hX := hI.good.row
  unfold xRow at hX x1 x2
  have hq1 := (kk q _ hqm hqT).1
  have hq2 := (kk q _ hqm hqT).2
  have hXl : X < W2.length := (List.getElem?_eq_some_iff.1 x2).1
  refine wc_scut (fun a T => T = W2.set X (xRow lD sgD to most z1.dO (.os ks2 0 (p.length + 1 + 1) false) (.os kp2 0 (p.length + 1) false)) ∧ a.length = 141 ∧ a[0]? = some (.loc X 0 0) ∧ a[2]? = some (.int .i64 i) ∧ a[3]? = some (.loc q 0 0) ∧ a[4]? = some (.int .i64 p.length) ∧ a[8]? = some (sgD) ∧ a[9]? = some (.int .i64 segs.length) ∧ a[10]? = some (.int .i64 i)) ?_ ?_
  · rw [wc_plan (p := plan7) rfl]
    unfold plan7 xRow
    rw [wp_pick rfl]
    simp only [opsOf, List.filterMap_cons, List.filterMap_nil, List.getElem?_toArray, List.getElem?_cons_zero, List.getElem?_cons_succ]
    simp (maxSteps := 1000000) (disch := omega) only [push_cast, ↓wc_seq, ↓wc_block, ↓wc_scope, ↓wc_condL, ↓wc_region, ↓wr_cons, ↓wr_consgL, ↓wr_nil, ↓wo_pickL, ↓wo_callf, ↓wc_exit, ↓wc_ret, ↓wc_skip, ↓wc_wl, wo_some, wo_none, wo_ite, opQ_eq, seqQ_normal, seqQ_exit, seqQ_ret, blockQ_normal, blockQ_exit, blockQ_ret, iterQ_normal, iterQ_exit, iterQ_ret, retQ_normal, retQ_ret, retQ_exit, pickC_true, pickC_false, pickO_true, pickO_false, gstep_tt, gstep_ff, gstep_tf, gstep_ft, gstep_skip, int_bne, int_beq, decide_not, Nat.reduceAdd, Nat.reduceMul, Nat.reduceSub, Nat.reducePow, Nat.reduceLT, Nat.reduceLeDiff, Nat.reduceEqDiff, Int.reduceToNat, Int.reduceAdd, Int.reduceSub, Int.reduceNeg, Int.reduceMul, Int.reduceLT, Int.reduceLE, Int.reduceEq, le_max, ↓wo_build, ↓wo_buildSlice, evParts, ↓reduceIte, planIds, hasExt, cntFs, idxFs, clnFs, ovlFs, List.contains_cons, List.contains_nil, List.any_cons, List.any_nil, Nat.reduceBEq, setC, List.length_set, decide_eq_true_eq, decide_eq_false_iff_not, true_implies, false_implies, forall_const, reduceCtorEq, eq_self, Int.natCast_nonneg, Int.toNat_natCast, Int.ofNat_lt, D.int.injEq, Option.some.injEq, Nat.zero_add, Nat.add_zero, bne_iff_ne, bne_eq_false_iff_eq, beq_iff_eq, beq_eq_false_iff_ne, gt_iff_lt, ne_eq, not_true_eq_false, not_false_eq_true, planIds, hasExt, cntFs, idxFs, clnFs, ovlFs, List.contains_cons, List.contains_nil, List.any_cons, List.any_nil, Nat.reduceBEq, Nat.reduceMul, Nat.reduceAdd, ↓reduceIte, hal, h0, h2, h3, h4, h8, h9, h10, hX, hqT, set_sort]
    apply wp_both
    · rw [wp_pick rfl]
      simp only [opsOf, List.filterMap_cons, List.filterMap_nil, List.getElem?_toArray, List.getElem?_cons_zero, List.getElem?_cons_succ]
      simp (maxSteps := 1000000) (disch := omega) only [push_cast, ↓wc_seq, ↓wc_block, ↓wc_scope, ↓wc_condL, ↓wc_region, ↓wr_cons, ↓wr_consgL, ↓wr_nil, ↓wo_pickL, ↓wo_callf, ↓wc_exit, ↓wc_ret, ↓wc_skip, ↓wc_wl, wo_some, wo_none, wo_ite, opQ_eq, seqQ_normal, seqQ_exit, seqQ_ret, blockQ_normal, blockQ_exit, blockQ_ret, iterQ_normal, iterQ_exit, iterQ_ret, retQ_normal, retQ_ret, retQ_exit, pickC_true, pickC_false, pickO_true, pickO_false, gstep_tt, gstep_ff, gstep_tf, gstep_ft, gstep_skip, int_bne, int_beq, decide_not, Nat.reduceAdd, Nat.reduceMul, Nat.reduceSub, Nat.reducePow, Nat.reduceLT, Nat.reduceLeDiff, Nat.reduceEqDiff, Int.reduceToNat, Int.reduceAdd, Int.reduceSub, Int.reduceNeg, Int.reduceMul, Int.reduceLT, Int.reduceLE, Int.reduceEq, le_max, ↓wo_build, ↓wo_buildSlice, evParts, ↓reduceIte, planIds, hasExt, cntFs, idxFs, clnFs, ovlFs, List.contains_cons, List.contains_nil, List.any_cons, List.any_nil, Nat.reduceBEq, setC, List.length_set, decide_eq_true_eq, decide_eq_false_iff_not, true_implies, false_implies, forall_const, reduceCtorEq, eq_self, Int.natCast_nonneg, Int.toNat_natCast, Int.ofNat_lt, D.int.injEq, Option.some.injEq, Nat.zero_add, Nat.add_zero, bne_iff_ne, bne_eq_false_iff_eq, beq_iff_eq, beq_eq_false_iff_ne, gt_iff_lt, ne_eq, not_true_eq_false, not_false_eq_true, planIds, hasExt, cntFs, idxFs, clnFs, ovlFs, List.contains_cons, List.contains_nil, List.any_cons, List.any_nil, Nat.reduceBEq, Nat.reduceMul, Nat.reduceAdd, ↓reduceIte, hal, h0, h2, h3, h4, h8, h9, h10, hX, hqT, a1, a2, x1, x2, hq1, hq2, hXl, wp_done, List.set_set, set_sort]
      exact ⟨rfl, rfl⟩
    · apply wp_both
      · rw [wp_pick rfl]
        simp only [opsOf, List.filterMap_cons, List.filterMap_nil, List.getElem?_toArray, List.getElem?_cons_zero, List.getElem?_cons_succ]
        simp (maxSteps := 1000000) (disch := omega) only [push_cast, ↓wc_seq, ↓wc_block, ↓wc_scope, ↓wc_condL, ↓wc_region, ↓wr_cons, ↓wr_consgL, ↓wr_nil, ↓wo_pickL, ↓wo_callf, ↓wc_exit, ↓wc_ret, ↓wc_skip, ↓wc_wl, wo_some, wo_none, wo_ite, opQ_eq, seqQ_normal, seqQ_exit, seqQ_ret, blockQ_normal, blockQ_exit, blockQ_ret, iterQ_normal, iterQ_exit, iterQ_ret, retQ_normal, retQ_ret, retQ_exit, pickC_true, pickC_false, pickO_true, pickO_false, gstep_tt, gstep_ff, gstep_tf, gstep_ft, gstep_skip, int_bne, int_beq, decide_not, Nat.reduceAdd, Nat.reduceMul, Nat.reduceSub, Nat.reducePow, Nat.reduceLT, Nat.reduceLeDiff, Nat.reduceEqDiff, Int.reduceToNat, Int.reduceAdd, Int.reduceSub, Int.reduceNeg, Int.reduceMul, Int.reduceLT, Int.reduceLE, Int.reduceEq, le_max, ↓wo_build, ↓wo_buildSlice, evParts, ↓reduceIte, planIds, hasExt, cntFs, idxFs, clnFs, ovlFs, List.contains_cons, List.contains_nil, List.any_cons, List.any_nil, Nat.reduceBEq, setC, List.length_set, decide_eq_true_eq, decide_eq_false_iff_not, true_implies, false_implies, forall_const, reduceCtorEq, eq_self, Int.natCast_nonneg, Int.toNat_natCast, Int.ofNat_lt, D.int.injEq, Option.some.injEq, Nat.zero_add, Nat.add_zero, bne_iff_ne, bne_eq_false_iff_eq, beq_iff_eq, beq_eq_false_iff_ne, gt_iff_lt, ne_eq, not_true_eq_false, not_false_eq_true, planIds, hasExt, cntFs, idxFs, clnFs, ovlFs, List.contains_cons, List.contains_nil, List.any_cons, List.any_nil, Nat.reduceBEq, Nat.reduceMul, Nat.reduceAdd, ↓reduceIte, hal, h0, h2, h3, h4, h8, h9, h10, hX, hqT, a1, a2, x1, x2, hq1, hq2, hXl, wp_done, List.set_set, set_sort]
        apply wp_both
        · rw [wp_pick rfl]
          simp only [opsOf, List.filterMap_cons, List.filterMap_nil, List.getElem?_toArray, List.getElem?_cons_zero, List.getElem?_cons_succ]
          simp (maxSteps := 1000000) (disch := omega) only [push_cast, ↓wc_seq, ↓wc_block, ↓wc_scope, ↓wc_condL, ↓wc_region, ↓wr_cons, ↓wr_consgL, ↓wr_nil, ↓wo_pickL, ↓wo_callf, ↓wc_exit, ↓wc_ret, ↓wc_skip, ↓wc_wl, wo_some, wo_none, wo_ite, opQ_eq, seqQ_normal, seqQ_exit, seqQ_ret, blockQ_normal, blockQ_exit, blockQ_ret, iterQ_normal, iterQ_exit, iterQ_ret, retQ_normal, retQ_ret, retQ_exit, pickC_true, pickC_false, pickO_true, pickO_false, gstep_tt, gstep_ff, gstep_tf, gstep_ft, gstep_skip, int_bne, int_beq, decide_not, Nat.reduceAdd, Nat.reduceMul, Nat.reduceSub, Nat.reducePow, Nat.reduceLT, Nat.reduceLeDiff, Nat.reduceEqDiff, Int.reduceToNat, Int.reduceAdd, Int.reduceSub, Int.reduceNeg, Int.reduceMul, Int.reduceLT, Int.reduceLE, Int.reduceEq, le_max, ↓wo_build, ↓wo_buildSlice, evParts, ↓reduceIte, planIds, hasExt, cntFs, idxFs, clnFs, ovlFs, List.contains_cons, List.contains_nil, List.any_cons, List.any_nil, Nat.reduceBEq, setC, List.length_set, decide_eq_true_eq, decide_eq_false_iff_not, true_implies, false_implies, forall_const, reduceCtorEq, eq_self, Int.natCast_nonneg, Int.toNat_natCast, Int.ofNat_lt, D.int.injEq, Option.some.injEq, Nat.zero_add, Nat.add_zero, bne_iff_ne, bne_eq_false_iff_eq, beq_iff_eq, beq_eq_false_iff_ne, gt_iff_lt, ne_eq, not_true_eq_false, not_false_eq_true, planIds, hasExt, cntFs, idxFs, clnFs, ovlFs, List.contains_cons, List.contains_nil, List.any_cons, List.any_nil, Nat.reduceBEq, Nat.reduceMul, Nat.reduceAdd, ↓reduceIte, hal, h0, h2, h3, h4, h8, h9, h10, hX, hqT, a1, a2, x1, x2, hq1, hq2, hXl, wp_done, List.set_set, set_sort]
          exact ⟨rfl, rfl⟩
        · rw [wp_pick rfl]
          simp only [opsOf, List.filterMap_cons, List.filterMap_nil, List.getElem?_toArray, List.getElem?_cons_zero, List.getElem?_cons_succ]
          simp (maxSteps := 1000000) (disch := omega) only [push_cast, ↓wc_seq, ↓wc_block, ↓wc_scope, ↓wc_condL, ↓wc_region, ↓wr_cons, ↓wr_consgL, ↓wr_nil, ↓wo_pickL, ↓wo_callf, ↓wc_exit, ↓wc_ret, ↓wc_skip, ↓wc_wl, wo_some, wo_none, wo_ite, opQ_eq, seqQ_normal, seqQ_exit, seqQ_ret, blockQ_normal, blockQ_exit, blockQ_ret, iterQ_normal, iterQ_exit, iterQ_ret, retQ_normal, retQ_ret, retQ_exit, pickC_true, pickC_false, pickO_true, pickO_false, gstep_tt, gstep_ff, gstep_tf, gstep_ft, gstep_skip, int_bne, int_beq, decide_not, Nat.reduceAdd, Nat.reduceMul, Nat.reduceSub, Nat.reducePow, Nat.reduceLT, Nat.reduceLeDiff, Nat.reduceEqDiff, Int.reduceToNat, Int.reduceAdd, Int.reduceSub, Int.reduceNeg, Int.reduceMul, Int.reduceLT, Int.reduceLE, Int.reduceEq, le_max, ↓wo_build, ↓wo_buildSlice, evParts, ↓reduceIte, planIds, hasExt, cntFs, idxFs, clnFs, ovlFs, List.contains_cons, List.contains_nil, List.any_cons, List.any_nil, Nat.reduceBEq, setC, List.length_set, decide_eq_true_eq, decide_eq_false_iff_not, true_implies, false_implies, forall_const, reduceCtorEq, eq_self, Int.natCast_nonneg, Int.toNat_natCast, Int.ofNat_lt, D.int.injEq, Option.some.injEq, Nat.zero_add, Nat.add_zero, bne_iff_ne, bne_eq_false_iff_eq, beq_iff_eq, beq_eq_false_iff_ne, gt_iff_lt, ne_eq, not_true_eq_false, not_false_eq_true, planIds, hasExt, cntFs, idxFs, clnFs, ovlFs, List.contains_cons, List.contains_nil, List.any_cons, List.any_nil, Nat.reduceBEq, Nat.reduceMul, Nat.reduceAdd, ↓reduceIte, hal, h0, h2, h3, h4, h8, h9, h10, hX, hqT, a1, a2, x1, x2, hq1, hq2, hXl, wp_done, List.set_set, set_sort]
        · exact ⟨rfl, rfl⟩
      · rw [wp_pick rfl]
        simp only [opsOf, List.filterMap_cons, List.filterMap_nil, List.getElem?_toArray, List.getElem?_cons_zero, List.getElem?_cons_succ]
        simp (maxSteps := 1000000) (disch := omega) only [push_cast, ↓wc_seq, ↓wc_block, ↓wc_scope, ↓wc_condL, ↓wc_region, ↓wr_cons, ↓wr_consgL, ↓wr_nil, ↓wo_pickL, ↓wo_callf, ↓wc_exit, ↓wc_ret, ↓wc_skip, ↓wc_wl, wo_some, wo_none, wo_ite, opQ_eq, seqQ_normal, seqQ_exit, seqQ_ret, blockQ_normal, blockQ_exit, blockQ_ret, iterQ_normal, iterQ_exit, iterQ_ret, retQ_normal, retQ_ret, retQ_exit, pickC_true, pickC_false, pickO_true, pickO_false, gstep_tt, gstep_ff, gstep_tf, gstep_ft, gstep_skip, int_bne, int_beq, decide_not, Nat.reduceAdd, Nat.reduceMul, Nat.reduceSub, Nat.reducePow, Nat.reduceLT, Nat.reduceLeDiff, Nat.reduceEqDiff, Int.reduceToNat, Int.reduceAdd, Int.reduceSub, Int.reduceNeg, Int.reduceMul, Int.reduceLT, Int.reduceLE, Int.reduceEq, le_max, ↓wo_build, ↓wo_buildSlice, evParts, ↓reduceIte, planIds, hasExt, cntFs, idxFs, clnFs, ovlFs, List.contains_cons, List.contains_nil, List.any_cons, List.any_nil, Nat.reduceBEq, setC, List.length_set, decide_eq_true_eq, decide_eq_false_iff_not, true_implies, false_implies, forall_const, reduceCtorEq, eq_self, Int.natCast_nonneg, Int.toNat_natCast, Int.ofNat_lt, D.int.injEq, Option.some.injEq, Nat.zero_add, Nat.add_zero, bne_iff_ne, bne_eq_false_iff_eq, beq_iff_eq, beq_eq_false_iff_ne, gt_iff_lt, ne_eq, not_true_eq_false, not_false_eq_true, planIds, hasExt, cntFs, idxFs, clnFs, ovlFs, List.contains_cons, List.contains_nil, List.any_cons, List.any_nil, Nat.reduceBEq, Nat.reduceMul, Nat.reduceAdd, ↓reduceIte, hal, h0, h2, h3, h4, h8, h9, h10, hX, hqT, a1, a2, x1, x2, hq1, hq2, hXl, wp_done, List.set_set, set_sort]
        apply wp_both
        · rw [wp_pick rfl]
          simp only [opsOf, List.filterMap_cons, List.filterMap_nil, List.getElem?_toArray, List.getElem?_cons_zero, List.getElem?_cons_succ]
          simp (maxSteps := 1000000) (disch := omega) only [push_cast, ↓wc_seq, ↓wc_block, ↓wc_scope, ↓wc_condL, ↓wc_region, ↓wr_cons, ↓wr_consgL, ↓wr_nil, ↓wo_pickL, ↓wo_callf, ↓wc_exit, ↓wc_ret, ↓wc_skip, ↓wc_wl, wo_some, wo_none, wo_ite, opQ_eq, seqQ_normal, seqQ_exit, seqQ_ret, blockQ_normal, blockQ_exit, blockQ_ret, iterQ_normal, iterQ_exit, iterQ_ret, retQ_normal, retQ_ret, retQ_exit, pickC_true, pickC_false, pickO_true, pickO_false, gstep_tt, gstep_ff, gstep_tf, gstep_ft, gstep_skip, int_bne, int_beq, decide_not, Nat.reduceAdd, Nat.reduceMul, Nat.reduceSub, Nat.reducePow, Nat.reduceLT, Nat.reduceLeDiff, Nat.reduceEqDiff, Int.reduceToNat, Int.reduceAdd, Int.reduceSub, Int.reduceNeg, Int.reduceMul, Int.reduceLT, Int.reduceLE, Int.reduceEq, le_max, ↓wo_build, ↓wo_buildSlice, evParts, ↓reduceIte, planIds, hasExt, cntFs, idxFs, clnFs, ovlFs, List.contains_cons, List.contains_nil, List.any_cons, List.any_nil, Nat.reduceBEq, setC, List.length_set, decide_eq_true_eq, decide_eq_false_iff_not, true_implies, false_implies, forall_const, reduceCtorEq, eq_self, Int.natCast_nonneg, Int.toNat_natCast, Int.ofNat_lt, D.int.injEq, Option.some.injEq, Nat.zero_add, Nat.add_zero, bne_iff_ne, bne_eq_false_iff_eq, beq_iff_eq, beq_eq_false_iff_ne, gt_iff_lt, ne_eq, not_true_eq_false, not_false_eq_true, planIds, hasExt, cntFs, idxFs, clnFs, ovlFs, List.contains_cons, List.contains_nil, List.any_cons, List.any_nil, Nat.reduceBEq, Nat.reduceMul, Nat.reduceAdd, ↓reduceIte, hal, h0, h2, h3, h4, h8, h9, h10, hX, hqT, a1, a2, x1, x2, hq1, hq2, hXl, wp_done, List.set_set, set_sort]
          exact ⟨rfl, rfl⟩
        · rw [wp_pick rfl]
          simp only [opsOf, List.filterMap_cons, List.filterMap_nil, List.getElem?_toArray, List.getElem?_cons_zero, List.getElem?_cons_succ]
          simp (maxSteps := 1000000) (disch := omega) only [push_cast, ↓wc_seq, ↓wc_block, ↓wc_scope, ↓wc_condL, ↓wc_region, ↓wr_cons, ↓wr_consgL, ↓wr_nil, ↓wo_pickL, ↓wo_callf, ↓wc_exit, ↓wc_ret, ↓wc_skip, ↓wc_wl, wo_some, wo_none, wo_ite, opQ_eq, seqQ_normal, seqQ_exit, seqQ_ret, blockQ_normal, blockQ_exit, blockQ_ret, iterQ_normal, iterQ_exit, iterQ_ret, retQ_normal, retQ_ret, retQ_exit, pickC_true, pickC_false, pickO_true, pickO_false, gstep_tt, gstep_ff, gstep_tf, gstep_ft, gstep_skip, int_bne, int_beq, decide_not, Nat.reduceAdd, Nat.reduceMul, Nat.reduceSub, Nat.reducePow, Nat.reduceLT, Nat.reduceLeDiff, Nat.reduceEqDiff, Int.reduceToNat, Int.reduceAdd, Int.reduceSub, Int.reduceNeg, Int.reduceMul, Int.reduceLT, Int.reduceLE, Int.reduceEq, le_max, ↓wo_build, ↓wo_buildSlice, evParts, ↓reduceIte, planIds, hasExt, cntFs, idxFs, clnFs, ovlFs, List.contains_cons, List.contains_nil, List.any_cons, List.any_nil, Nat.reduceBEq, setC, List.length_set, decide_eq_true_eq, decide_eq_false_iff_not, true_implies, false_implies, forall_const, reduceCtorEq, eq_self, Int.natCast_nonneg, Int.toNat_natCast, Int.ofNat_lt, D.int.injEq, Option.some.injEq, Nat.zero_add, Nat.add_zero, bne_iff_ne, bne_eq_false_iff_eq, beq_iff_eq, beq_eq_false_iff_ne, gt_iff_lt, ne_eq, not_true_eq_false, not_false_eq_true, planIds, hasExt, cntFs, idxFs, clnFs, ovlFs, List.contains_cons, List.contains_nil, List.any_cons, List.any_nil, Nat.reduceBEq, Nat.reduceMul, Nat.reduceAdd, ↓reduceIte, hal, h0, h2, h3, h4, h8, h9, h10, hX, hqT, a1, a2, x1, x2, hq1, hq2, hXl, wp_done, List.set_set, set_sort]
        · exact ⟨rfl, rfl⟩
      · exact ⟨rfl, rfl⟩
    · simp (maxSteps := 1000000) (disch := omega) only [push_cast, ↓wc_seq, ↓wc_block, ↓wc_scope, ↓wc_condL, ↓wc_region, ↓wr_cons, ↓wr_consgL, ↓wr_nil, ↓wo_pickL, ↓wo_callf, ↓wc_exit, ↓wc_ret, ↓wc_skip, ↓wc_wl, wo_some, wo_none, wo_ite, opQ_eq, seqQ_normal, seqQ_exit, seqQ_ret, blockQ_normal, blockQ_exit, blockQ_ret, iterQ_normal, iterQ_exit, iterQ_ret, retQ_normal, retQ_ret, retQ_exit, pickC_true, pickC_false, pickO_true, pickO_false, gstep_tt, gstep_ff, gstep_tf, gstep_ft, gstep_skip, int_bne, int_beq, decide_not, Nat.reduceAdd, Nat.reduceMul, Nat.reduceSub, Nat.reducePow, Nat.reduceLT, Nat.reduceLeDiff, Nat.reduceEqDiff, Int.reduceToNat, Int.reduceAdd, Int.reduceSub, Int.reduceNeg, Int.reduceMul, Int.reduceLT, Int.reduceLE, Int.reduceEq, le_max, ↓wo_build, ↓wo_buildSlice, evParts, ↓reduceIte, planIds, hasExt, cntFs, idxFs, clnFs, ovlFs, List.contains_cons, List.contains_nil, List.any_cons, List.any_nil, Nat.reduceBEq, setC, List.length_set, decide_eq_true_eq, decide_eq_false_iff_not, true_implies, false_implies, forall_const, reduceCtorEq, eq_self, Int.natCast_nonneg, Int.toNat_natCast, Int.ofNat_lt, D.int.injEq, Option.some.injEq, Nat.zero_add, Nat.add_zero, bne_iff_ne, bne_eq_false_iff_eq, beq_iff_eq, beq_eq_false_iff_ne, gt_iff_lt, ne_eq, not_true_eq_false, not_false_eq_true, planIds, hasExt, cntFs, idxFs, clnFs, ovlFs, List.contains_cons, List.contains_nil, List.any_cons, List.any_nil, Nat.reduceBEq, Nat.reduceMul, Nat.reduceAdd, ↓reduceIte, hal, h0, h2, h3, h4, h8, h9, h10]
  clear hal h0 h2 h3 h4 h8 h9 h10 a
  rintro a T3 ⟨hT3, hal, h0, h2, h3, h4, h8, h9, h10⟩
  obtain ⟨z2, hz2⟩ : ∃ z2 : Zs, z2 = ⟨.os kp2 0 (p.length + 1) false, .os ks2 0 (p.length + 1 + 1) false, z1.dO, z1.o⟩ := ⟨_, rfl⟩
  rw [← hT3, ← hz2] at g2 s2
  have hq3 : T3[q]? = some (.row 7 [[.str s.c, .int .i64 s.n, .int .i64 s.d, .str s.f, .str s.t, .int .i64 s.dep, .int .i64 s.arr]]) := by
    rw [hT3, List.getElem?_set_ne (fun e => hqm (.inl e.symm))]; exact hq2
  have hseg3 : SegD T3 sgD segs := hI.seg.keep fun k o hk ho => s2.old k o (hsm _ _ hI.step k hk) ho
  have hst3 := hI.step.trans s2
  have hX3 := g2.row
  unfold xRow at hX3
  have hz2p : z2.dp = .os kp2 0 (p.length + 1) false := by rw [hz2]
  have hz2s : z2.ds = .os ks2 0 (p.length + 1 + 1) false := by rw [hz2]
  have hz2o : z2.o = z1.o := by rw [hz2]
  have hz2d : z2.dO = z1.dO := by rw [hz2]
  have hpi : (p ++ [i]).length = p.length + 1 := by simp
  rw [← ht, ← stops_app] at g2
  clear a1 a2 x1 x2 kk hq1 hq2 hXl hX hT3 hz2
  refine wc_scut (fun a T => ∃ z3, a.length = 141 ∧ a[0]? = some (.loc X 0 0) ∧ a[2]? = some (.int .i64 i) ∧ a[3]? = some (.loc q 0 0) ∧ a[4]? = some (.int .i64 p.length) ∧ a[8]? = some (sgD) ∧ a[9]? = some (.int .i64 segs.length) ∧ a[10]? = some (.int .i64 i) ∧ SGood lD sgD to most X (stopsL fr segs (p ++ [i])) T (p ++ [i]) z3 ∧ SegD T sgD segs ∧ StepR X T3 z2 T z3 ∧ z3.outs = (z1.outs ++ (if ((tAt segs i).toList == to.toList) = true then [p ++ [i]] else dfs l segs fr to m (p ++ [i]))).take 1025) ?_ ?_
  · cases e4 : (s.t.toList == to.toList)
    · rw [ht, e4, if_neg (by simp)]
      have w1 : IntKind.i64.wrap ((p.length : Int) + 1) = (p.length : Int) + 1 := wrap_ok (by omega) (by omega)
      cases m with
      | zero =>
        have g0 : ¬ ((p.length : Int) + 1 < (most : Int)) := by omega
        simp (maxSteps := 1000000) (disch := omega) only [push_cast, ↓wc_seq, ↓wc_block, ↓wc_scope, ↓wc_condL, ↓wc_region, ↓wr_cons, ↓wr_consgL, ↓wr_nil, ↓wo_pickL, ↓wo_callf, ↓wc_exit, ↓wc_ret, ↓wc_skip, ↓wc_wl, wo_some, wo_none, wo_ite, opQ_eq, seqQ_normal, seqQ_exit, seqQ_ret, blockQ_normal, blockQ_exit, blockQ_ret, iterQ_normal, iterQ_exit, iterQ_ret, retQ_normal, retQ_ret, retQ_exit, pickC_true, pickC_false, pickO_true, pickO_false, gstep_tt, gstep_ff, gstep_tf, gstep_ft, gstep_skip, int_bne, int_beq, decide_not, Nat.reduceAdd, Nat.reduceMul, Nat.reduceSub, Nat.reducePow, Nat.reduceLT, Nat.reduceLeDiff, Nat.reduceEqDiff, Int.reduceToNat, Int.reduceAdd, Int.reduceSub, Int.reduceNeg, Int.reduceMul, Int.reduceLT, Int.reduceLE, Int.reduceEq, le_max, ↓wo_build, ↓wo_buildSlice, evParts, ↓reduceIte, planIds, hasExt, cntFs, idxFs, clnFs, ovlFs, List.contains_cons, List.contains_nil, List.any_cons, List.any_nil, Nat.reduceBEq, setC, List.length_set, decide_eq_true_eq, decide_eq_false_iff_not, true_implies, false_implies, forall_const, reduceCtorEq, eq_self, Int.natCast_nonneg, Int.toNat_natCast, Int.ofNat_lt, D.int.injEq, Option.some.injEq, Nat.zero_add, Nat.add_zero, bne_iff_ne, bne_eq_false_iff_eq, beq_iff_eq, beq_eq_false_iff_ne, gt_iff_lt, ne_eq, not_true_eq_false, not_false_eq_true, planIds, hasExt, cntFs, idxFs, clnFs, ovlFs, List.contains_cons, List.contains_nil, List.any_cons, List.any_nil, Nat.reduceBEq, Nat.reduceMul, Nat.reduceAdd, ↓reduceIte, hal, h0, h2, h3, h4, h8, h9, h10, hX3, hq3, e4, w1, g0]
        exact ⟨z2, g2, hseg3, StepR.refl, by rw [dfs, List.append_nil, List.take_of_length_le (by simp only [Zs.outs, List.length_map]; exact hI.olen)]; simp only [Zs.outs, hz2o]⟩
      | succ m' =>
        have g0 : ((p.length : Int) + 1 < (most : Int)) := by omega
        obtain ⟨n', hn'⟩ : ∃ n', n = n' + 1 := ⟨n - 1, by omega⟩
        obtain ⟨_, T4, c1, z3, r1, r2, r3, r4⟩ := ih m' (by omega) (n := n') (p := p ++ [i]) (S := T3) (z := z2) (by omega) (fun j hj => by
          rcases List.mem_append.1 hj with h | h
          · exact hpj j h
          · obtain rfl : j = i := by simpa using h
            exact hlt) (fun k hk => hsm _ _ hst3 k hk) g2 hseg3 (by rw [hz2o]; exact hI.olen) (by omega)
        rw [← hn'] at c1
        have c1 := (callD_own (f := 40) rfl loc_own).trans c1
        simp (maxSteps := 1000000) (disch := omega) only [push_cast, ↓wc_seq, ↓wc_block, ↓wc_scope, ↓wc_condL, ↓wc_region, ↓wr_cons, ↓wr_consgL, ↓wr_nil, ↓wo_pickL, ↓wo_callf, ↓wc_exit, ↓wc_ret, ↓wc_skip, ↓wc_wl, wo_some, wo_none, wo_ite, opQ_eq, seqQ_normal, seqQ_exit, seqQ_ret, blockQ_normal, blockQ_exit, blockQ_ret, iterQ_normal, iterQ_exit, iterQ_ret, retQ_normal, retQ_ret, retQ_exit, pickC_true, pickC_false, pickO_true, pickO_false, gstep_tt, gstep_ff, gstep_tf, gstep_ft, gstep_skip, int_bne, int_beq, decide_not, Nat.reduceAdd, Nat.reduceMul, Nat.reduceSub, Nat.reducePow, Nat.reduceLT, Nat.reduceLeDiff, Nat.reduceEqDiff, Int.reduceToNat, Int.reduceAdd, Int.reduceSub, Int.reduceNeg, Int.reduceMul, Int.reduceLT, Int.reduceLE, Int.reduceEq, le_max, ↓wo_build, ↓wo_buildSlice, evParts, ↓reduceIte, planIds, hasExt, cntFs, idxFs, clnFs, ovlFs, List.contains_cons, List.contains_nil, List.any_cons, List.any_nil, Nat.reduceBEq, setC, List.length_set, decide_eq_true_eq, decide_eq_false_iff_not, true_implies, false_implies, forall_const, reduceCtorEq, eq_self, Int.natCast_nonneg, Int.toNat_natCast, Int.ofNat_lt, D.int.injEq, Option.some.injEq, Nat.zero_add, Nat.add_zero, bne_iff_ne, bne_eq_false_iff_eq, beq_iff_eq, beq_eq_false_iff_ne, gt_iff_lt, ne_eq, not_true_eq_false, not_false_eq_true, planIds, hasExt, cntFs, idxFs, clnFs, ovlFs, List.contains_cons, List.contains_nil, List.any_cons, List.any_nil, Nat.reduceBEq, Nat.reduceMul, Nat.reduceAdd, ↓reduceIte, hal, h0, h2, h3, h4, h8, h9, h10, hX3, hq3, e4, w1, g0, c1]
        exact ⟨z3, r1, r2, r3, by rw [r4]; simp only [Zs.outs, hz2o]⟩
    · rw [ht, e4, if_pos rfl]
      have q1 := g2.path
      rw [hz2p] at q1
      obtain ⟨-, ep, b1, b2, b3⟩ := q1.os
      have cC := clone_c (n := n) (by omega) b1 hpi (by omega) b2 b3
      obtain ⟨W, d1, d2, d3, d4⟩ := g2.note (by rw [hz2o]; have := hI.olen; omega)
      rw [hpi] at cC d1
      rw [hz2d] at d1
      have hX4 : (T3 ++ [Ob.row 1 ((p ++ [i]).map fun a => [intV a])])[X]? = _ := get_old hX3
      have hXW : X < W.length := (List.getElem?_eq_some_iff.1 d2).1
      unfold xRow at d2
      simp only [hz2d, hz2p, hz2s] at hX3 hX4 d2 d3 d4
      simp (maxSteps := 1000000) (disch := omega) only [push_cast, ↓wc_seq, ↓wc_block, ↓wc_scope, ↓wc_condL, ↓wc_region, ↓wr_cons, ↓wr_consgL, ↓wr_nil, ↓wo_pickL, ↓wo_callf, ↓wc_exit, ↓wc_ret, ↓wc_skip, ↓wc_wl, wo_some, wo_none, wo_ite, opQ_eq, seqQ_normal, seqQ_exit, seqQ_ret, blockQ_normal, blockQ_exit, blockQ_ret, iterQ_normal, iterQ_exit, iterQ_ret, retQ_normal, retQ_ret, retQ_exit, pickC_true, pickC_false, pickO_true, pickO_false, gstep_tt, gstep_ff, gstep_tf, gstep_ft, gstep_skip, int_bne, int_beq, decide_not, Nat.reduceAdd, Nat.reduceMul, Nat.reduceSub, Nat.reducePow, Nat.reduceLT, Nat.reduceLeDiff, Nat.reduceEqDiff, Int.reduceToNat, Int.reduceAdd, Int.reduceSub, Int.reduceNeg, Int.reduceMul, Int.reduceLT, Int.reduceLE, Int.reduceEq, le_max, ↓wo_build, ↓wo_buildSlice, evParts, ↓reduceIte, planIds, hasExt, cntFs, idxFs, clnFs, ovlFs, List.contains_cons, List.contains_nil, List.any_cons, List.any_nil, Nat.reduceBEq, setC, List.length_set, decide_eq_true_eq, decide_eq_false_iff_not, true_implies, false_implies, forall_const, reduceCtorEq, eq_self, Int.natCast_nonneg, Int.toNat_natCast, Int.ofNat_lt, D.int.injEq, Option.some.injEq, Nat.zero_add, Nat.add_zero, bne_iff_ne, bne_eq_false_iff_eq, beq_iff_eq, beq_eq_false_iff_ne, gt_iff_lt, ne_eq, not_true_eq_false, not_false_eq_true, planIds, hasExt, cntFs, idxFs, clnFs, ovlFs, List.contains_cons, List.contains_nil, List.any_cons, List.any_nil, Nat.reduceBEq, Nat.reduceMul, Nat.reduceAdd, ↓reduceIte, hal, h0, h2, h3, h4, h8, h9, h10, hX3, hq3, e4, cC, hX4, d1, d2, hXW]
      refine ⟨_, d3, ?_, d4, ?_⟩
      · exact hseg3.keep fun k o hk ho => d4.old k o (hsm _ _ hst3 k hk) ho
      · simp only [Zs.outs, List.map_append, List.map_cons, List.map_nil, hz2o]
        rw [List.take_of_length_le]
        simp only [List.length_append, List.length_map, List.length_cons, List.length_nil]
        omega
  clear hal h0 h2 h3 h4 h8 h9 h10 a
  clear hq3 hX3 hz2p hz2s hz2o hz2d g2 hseg3
  rintro a T4 ⟨z3, hal, h0, h2, h3, h4, h8, h9, h10, g3, hseg4, s3, ho3⟩
  -- the journey is shortened
  obtain ⟨kp3, ks3, hdp, hds⟩ : ∃ kp ks, z3.dp = .os kp 0 (p ++ [i]).length false ∧ z3.ds = .os ks 0 (stopsL fr segs (p ++ [i])).length false := by
    rcases g3.sh with ⟨-, h, -⟩ | h
    · simp at h
    · exact h
  have hsl2 : (stopsL fr segs (p ++ [i])).length = p.length + 1 + 1 := by rw [stops_len, hpi]
  obtain ⟨g4, s4⟩ := g3.back hdp hds (n := p.length) (m := p.length + 1) (by omega) (by omega)
  have q1 := g3.path
  have q2 := g3.stop
  rw [hdp] at q1
  rw [hds] at q2
  obtain ⟨-, ep, b1, -, -⟩ := q1.os
  obtain ⟨-, es, b2, -, -⟩ := q2.os
  have hX4 := g3.row
  unfold xRow at hX4
  rw [hdp, hds, hpi, hsl2] at hX4
  have hXl : X < T4.length := (List.getElem?_eq_some_iff.1 hX4).1
  have w1 : IntKind.i64.wrap ((p.length : Int) + 1) = ((p.length + 1 : Nat) : Int) := by rw [wrap_ok (by omega) (by omega)]; omega
  obtain ⟨p1, hp1⟩ : ∃ p1, p1 = p.length + 1 := ⟨_, rfl⟩
  rw [← hp1] at w1 hX4
  rw [show (stopsL fr segs (p ++ [i])).take (p.length + 1) = stopsL fr segs p by rw [stops_app, ← stops_len (fr := fr) (segs := segs) (p := p), List.take_left], List.take_left] at g4
  rw [← hp1] at g4 s4
  have c0 : p.length ≤ p1 := by omega
  have c1 : p1 ≤ p1 + 1 := by omega
  have w2 : IntKind.i64.wrap ((p.length : Int) + 1) = (p1 : Int) := w1
  have hXk : (X = ks3) = False := eq_false fun e => g3.ne2 (by rw [hds, e]; rfl)
  have fin : ExI l segs lD sgD fr to most X m p T z o0 (i + 1) _ _ := ⟨g4, hseg4.keep fun k o hk ho => s4.old k o (hsm _ _ (hst3.trans s3) k hk) ho, (hst3.trans s3).trans s4, by
    show z3.outs = _
    rw [ho3, hI.outs, pre_succ, hcT, if_pos rfl, take_more]⟩
  unfold xRow at fin
  rw [wc_plan (p := plan12) rfl]
  unfold plan12
  rw [wp_pick rfl]
  simp only [opsOf, List.filterMap_cons, List.filterMap_nil, List.getElem?_toArray, List.getElem?_cons_zero, List.getElem?_cons_succ]
  simp (maxSteps := 1000000) (disch := omega) only [push_cast, ↓wc_seq, ↓wc_block, ↓wc_scope, ↓wc_condL, ↓wc_region, ↓wr_cons, ↓wr_consgL, ↓wr_nil, ↓wo_pickL, ↓wo_callf, ↓wc_exit, ↓wc_ret, ↓wc_skip, ↓wc_wl, wo_some, wo_none, wo_ite, opQ_eq, seqQ_normal, seqQ_exit, seqQ_ret, blockQ_normal, blockQ_exit, blockQ_ret, iterQ_normal, iterQ_exit, iterQ_ret, retQ_normal, retQ_ret, retQ_exit, pickC_true, pickC_false, pickO_true, pickO_false, gstep_tt, gstep_ff, gstep_tf, gstep_ft, gstep_skip, int_bne, int_beq, decide_not, Nat.reduceAdd, Nat.reduceMul, Nat.reduceSub, Nat.reducePow, Nat.reduceLT, Nat.reduceLeDiff, Nat.reduceEqDiff, Int.reduceToNat, Int.reduceAdd, Int.reduceSub, Int.reduceNeg, Int.reduceMul, Int.reduceLT, Int.reduceLE, Int.reduceEq, le_max, ↓wo_build, ↓wo_buildSlice, evParts, ↓reduceIte, planIds, hasExt, cntFs, idxFs, clnFs, ovlFs, List.contains_cons, List.contains_nil, List.any_cons, List.any_nil, Nat.reduceBEq, setC, List.length_set, decide_eq_true_eq, decide_eq_false_iff_not, true_implies, false_implies, forall_const, reduceCtorEq, eq_self, Int.natCast_nonneg, Int.toNat_natCast, Int.ofNat_lt, D.int.injEq, Option.some.injEq, Nat.zero_add, Nat.add_zero, bne_iff_ne, bne_eq_false_iff_eq, beq_iff_eq, beq_eq_false_iff_ne, gt_iff_lt, ne_eq, not_true_eq_false, not_false_eq_true, planIds, hasExt, cntFs, idxFs, clnFs, ovlFs, List.contains_cons, List.contains_nil, List.any_cons, List.any_nil, Nat.reduceBEq, Nat.reduceMul, Nat.reduceAdd, ↓reduceIte, hal, h0, h2, h3, h4, h8, h9, h10, hX4, b1, b2, w2, c0, c1, hXl, set_sort, Nat.zero_le, Nat.sub_zero]
  apply wp_both
  · rw [wp_pick rfl]
    simp only [opsOf, List.filterMap_cons, List.filterMap_nil, List.getElem?_toArray, List.getElem?_cons_zero, List.getElem?_cons_succ]
    simp (maxSteps := 1000000) (disch := omega) only [push_cast, ↓wc_seq, ↓wc_block, ↓wc_scope, ↓wc_condL, ↓wc_region, ↓wr_cons, ↓wr_consgL, ↓wr_nil, ↓wo_pickL, ↓wo_callf, ↓wc_exit, ↓wc_ret, ↓wc_skip, ↓wc_wl, wo_some, wo_none, wo_ite, opQ_eq, seqQ_normal, seqQ_exit, seqQ_ret, blockQ_normal, blockQ_exit, blockQ_ret, iterQ_normal, iterQ_exit, iterQ_ret, retQ_normal, retQ_ret, retQ_exit, pickC_true, pickC_false, pickO_true, pickO_false, gstep_tt, gstep_ff, gstep_tf, gstep_ft, gstep_skip, int_bne, int_beq, decide_not, Nat.reduceAdd, Nat.reduceMul, Nat.reduceSub, Nat.reducePow, Nat.reduceLT, Nat.reduceLeDiff, Nat.reduceEqDiff, Int.reduceToNat, Int.reduceAdd, Int.reduceSub, Int.reduceNeg, Int.reduceMul, Int.reduceLT, Int.reduceLE, Int.reduceEq, le_max, ↓wo_build, ↓wo_buildSlice, evParts, ↓reduceIte, planIds, hasExt, cntFs, idxFs, clnFs, ovlFs, List.contains_cons, List.contains_nil, List.any_cons, List.any_nil, Nat.reduceBEq, setC, List.length_set, decide_eq_true_eq, decide_eq_false_iff_not, true_implies, false_implies, forall_const, reduceCtorEq, eq_self, Int.natCast_nonneg, Int.toNat_natCast, Int.ofNat_lt, D.int.injEq, Option.some.injEq, Nat.zero_add, Nat.add_zero, bne_iff_ne, bne_eq_false_iff_eq, beq_iff_eq, beq_eq_false_iff_ne, gt_iff_lt, ne_eq, not_true_eq_false, not_false_eq_true, planIds, hasExt, cntFs, idxFs, clnFs, ovlFs, List.contains_cons, List.contains_nil, List.any_cons, List.any_nil, Nat.reduceBEq, Nat.reduceMul, Nat.reduceAdd, ↓reduceIte, hal, h0, h2, h3, h4, h8, h9, h10, hX4, b1, b2, w2, c0, c1, hXl, hXk, Nat.zero_le, Nat.sub_zero, wp_done, List.set_set, set_sort]
    exact ⟨rfl, rfl⟩
  · rw [wp_pick rfl]
    simp only [opsOf, List.filterMap_cons, List.filterMap_nil, List.getElem?_toArray, List.getElem?_cons_zero, List.getElem?_cons_succ]
    simp (maxSteps := 1000000) (disch := omega) only [push_cast, ↓wc_seq, ↓wc_block, ↓wc_scope, ↓wc_condL, ↓wc_region, ↓wr_cons, ↓wr_consgL, ↓wr_nil, ↓wo_pickL, ↓wo_callf, ↓wc_exit, ↓wc_ret, ↓wc_skip, ↓wc_wl, wo_some, wo_none, wo_ite, opQ_eq, seqQ_normal, seqQ_exit, seqQ_ret, blockQ_normal, blockQ_exit, blockQ_ret, iterQ_normal, iterQ_exit, iterQ_ret, retQ_normal, retQ_ret, retQ_exit, pickC_true, pickC_false, pickO_true, pickO_false, gstep_tt, gstep_ff, gstep_tf, gstep_ft, gstep_skip, int_bne, int_beq, decide_not, Nat.reduceAdd, Nat.reduceMul, Nat.reduceSub, Nat.reducePow, Nat.reduceLT, Nat.reduceLeDiff, Nat.reduceEqDiff, Int.reduceToNat, Int.reduceAdd, Int.reduceSub, Int.reduceNeg, Int.reduceMul, Int.reduceLT, Int.reduceLE, Int.reduceEq, le_max, ↓wo_build, ↓wo_buildSlice, evParts, ↓reduceIte, planIds, hasExt, cntFs, idxFs, clnFs, ovlFs, List.contains_cons, List.contains_nil, List.any_cons, List.any_nil, Nat.reduceBEq, setC, List.length_set, decide_eq_true_eq, decide_eq_false_iff_not, true_implies, false_implies, forall_const, reduceCtorEq, eq_self, Int.natCast_nonneg, Int.toNat_natCast, Int.ofNat_lt, D.int.injEq, Option.some.injEq, Nat.zero_add, Nat.add_zero, bne_iff_ne, bne_eq_false_iff_eq, beq_iff_eq, beq_eq_false_iff_ne, gt_iff_lt, ne_eq, not_true_eq_false, not_false_eq_true, planIds, hasExt, cntFs, idxFs, clnFs, ovlFs, List.contains_cons, List.contains_nil, List.any_cons, List.any_nil, Nat.reduceBEq, Nat.reduceMul, Nat.reduceAdd, ↓reduceIte, hal, h0, h2, h3, h4, h8, h9, h10, hX4, b1, b2, w2, c0, c1, hXl, hXk, Nat.zero_le, Nat.sub_zero, wp_done, List.set_set, set_sort]
  · simp (maxSteps := 1000000) (disch := omega) only [push_cast, ↓wc_seq, ↓wc_block, ↓wc_scope, ↓wc_condL, ↓wc_region, ↓wr_cons, ↓wr_consgL, ↓wr_nil, ↓wo_pickL, ↓wo_callf, ↓wc_exit, ↓wc_ret, ↓wc_skip, ↓wc_wl, wo_some, wo_none, wo_ite, opQ_eq, seqQ_normal, seqQ_exit, seqQ_ret, blockQ_normal, blockQ_exit, blockQ_ret, iterQ_normal, iterQ_exit, iterQ_ret, retQ_normal, retQ_ret, retQ_exit, pickC_true, pickC_false, pickO_true, pickO_false, gstep_tt, gstep_ff, gstep_tf, gstep_ft, gstep_skip, int_bne, int_beq, decide_not, Nat.reduceAdd, Nat.reduceMul, Nat.reduceSub, Nat.reducePow, Nat.reduceLT, Nat.reduceLeDiff, Nat.reduceEqDiff, Int.reduceToNat, Int.reduceAdd, Int.reduceSub, Int.reduceNeg, Int.reduceMul, Int.reduceLT, Int.reduceLE, Int.reduceEq, le_max, ↓wo_build, ↓wo_buildSlice, evParts, ↓reduceIte, planIds, hasExt, cntFs, idxFs, clnFs, ovlFs, List.contains_cons, List.contains_nil, List.any_cons, List.any_nil, Nat.reduceBEq, setC, List.length_set, decide_eq_true_eq, decide_eq_false_iff_not, true_implies, false_implies, forall_const, reduceCtorEq, eq_self, Int.natCast_nonneg, Int.toNat_natCast, Int.ofNat_lt, D.int.injEq, Option.some.injEq, Nat.zero_add, Nat.add_zero, bne_iff_ne, bne_eq_false_iff_eq, beq_iff_eq, beq_eq_false_iff_ne, gt_iff_lt, ne_eq, not_true_eq_false, not_false_eq_true, planIds, hasExt, cntFs, idxFs, clnFs, ovlFs, List.contains_cons, List.contains_nil, List.any_cons, List.any_nil, Nat.reduceBEq, Nat.reduceMul, Nat.reduceAdd, ↓reduceIte, hal, h0, h2, h3, h4, h8, h9, h10, hw2, Int.natCast_add, Int.natCast_one]
    exact ⟨hlt, _, fin⟩
end
end Go.Proofs.YtgomkmamgflbeaaDoor.Dm
