/-
  Lists that the same are: counts, identifiers. The legs are of the six.
-/
import Derived.Test.YtajhgnefcddenaaGreatDoorLgC
import Derived.Test.YtajhgnefcddenaaGreatDoorSlL
namespace Go.Proofs.YtajhgnefcddenaaGreatDoor.Dm
open Go Gw
set_option linter.unusedSimpArgs false
set_option linter.unusedSimpArgs false

theorem plain_cnt : plainEqT Tryz.prog 134 = true := by kernel_rfl
set_option maxRecDepth 100000 in
theorem eq_cnt (a b : ByteArray × Int) : dEq Tryz.prog 10000 134 (.agg (encC a)) (.agg (encC b)) = some (decide (a = b)) := by
  obtain ⟨c, n⟩ := a
  obtain ⟨c', n'⟩ := b
  rw [show (10000 : Nat) = 9998 + 1 + 1 from rfl]
  have hs : Tryz.prog.stoodInHeld 134 = false := by kernel_rfl
  simp only [Prod.mk.injEq]
  by_cases e1 : c = c' <;> by_cases e2 : n = n' <;> simp (decide := true) only [push_cast, encC, dEq, dEqs, beq_self_eq_true, bytes_refl, hs, str_eq', e1, e2, int_beq, decide_false, decide_true]
/-- A list, wherever it lies. -/
def LS {α : Type} (sz : Nat) (enc : α → List D) (S : List Ob) (d : D) (l : List α) : Prop := (d = .nils ∧ l = []) ∨ (∃ x, d = .sl sz (l.map enc) x) ∨ ∃ k, d = .os k 0 l.length false ∧ S[k]? = some (.row sz (l.map enc))
theorem GL.ls {α : Type} {sz : Nat} {enc : α → List D} {S : List Ob} {d : D} {l : List α} (h : GL sz enc S d l) : LS sz enc S d l := h.elim .inl fun h => .inr (.inr h)
theorem FLs.ls {α : Type} {sz : Nat} {enc : α → List D} {S : List Ob} {d : D} {l : List α} (h : FLs sz enc d l) : LS sz enc S d l := h.elim .inl fun h => .inr (.inl h)
theorem LS.ext {α : Type} {sz : Nat} {enc : α → List D} {S T : List Ob} {d : D} {l : List α} (h : LS sz enc S d l) (g : ExtS S T) : LS sz enc T d l := by
  rcases h with h | h | ⟨k, h1, h2⟩
  · exact .inl h
  · exact .inr (.inl h)
  · exact .inr (.inr ⟨k, h1, g k _ h2⟩)
theorem LS.pure {α : Type} {sz : Nat} {enc : α → List D} {S T : List Ob} {d : D} {l : List α} (h : LS sz enc S d l) (hp : d.pure = true) : LS sz enc T d l := by
  rcases h with h | h | ⟨k, rfl, h2⟩
  · exact .inl h
  · exact .inr (.inl h)
  · cases hp
set_option maxHeartbeats 8000000 in
set_option maxRecDepth 100000 in
theorem sameCounts_d {n : Nat} {S : List Ob} {d1 d2 : D} {l : List (ByteArray × Int)} (hn : 1010 ≤ n) (hl : l.length ≤ 1000) (h1 : LS 2 encC S d1 l) (h2 : LS 2 encC S d2 l) :
    WO (dcall E (n + 1) 34 [d1, d2] S) fun r T => r = .bool true ∧ T = S := by
  have he := fun w => eq_cnt w w
  have hpl := plain_cnt
  simp only [decide_true, encC] at he
  rcases h1 with ⟨rfl, rfl⟩ | ⟨x1, rfl⟩ | ⟨k1, rfl, hk1⟩
  · rcases h2 with ⟨rfl, -⟩ | ⟨x2, rfl⟩ | ⟨k2, rfl, hk2⟩
    · refine wo_dcall Tryz.func34 rfl (by decide) rfl 26 rfl (fun a hal ha => ?_)
      have h0 : a[0]? = some (.nils) := ha 0 (by simp)
      have h1 : a[1]? = some (.nils) := ha 1 (by simp)
      clear ha
      simp (maxSteps := 1000000) (disch := omega) only [push_cast, ↓wc_seq, ↓wc_block, ↓wc_condL, ↓wc_region, ↓wr_cons, ↓wr_nil, ↓wc_skip, ↓wc_wl, wo_some, opQ_eq, seqQ_normal, pickC_false, int_bne, Nat.reduceAdd, Nat.reduceMul, Nat.reduceLT, Nat.reduceEqDiff, ↓reduceIte, planIds, List.contains_cons, List.contains_nil, Nat.reduceBEq, setC, List.length_set, reduceCtorEq, eq_self, Nat.zero_add, not_true_eq_false, hal, h0, h1, List.map_nil, List.length_nil]
      refine wl_loop (fun i a T => i = 0 ∧ T = S ∧ a.length = 26 ∧ a[0]? = some (.nils) ∧ a[1]? = some (.nils) ∧ a[5]? = some (.int .i64 0)) 0 ?_ (by omega) ?_
      · simp (maxSteps := 1000000) (disch := omega) only [push_cast, Nat.reduceLT, Nat.reduceEqDiff, ↓reduceIte, setC, List.length_set, reduceCtorEq, eq_self, hal, h0, h1]
      clear hal h0 h1 a
      rintro i a T _ ⟨rfl, rfl, hal, h0, h1, h5⟩
      simp (maxSteps := 1000000) (disch := omega) only [push_cast, ↓wc_seq, ↓wc_condL, ↓wc_region, ↓wr_cons, ↓wr_nil, ↓wc_exit, ↓wc_ret, wo_some, opQ_eq, seqQ_normal, seqQ_exit, blockQ_exit, iterQ_exit, retQ_ret, pickC_false, Nat.reduceAdd, Nat.reduceMul, Nat.reduceLT, Nat.reduceEqDiff, ↓reduceIte, planIds, List.contains_cons, List.contains_nil, Nat.reduceBEq, setC, List.length_set, reduceCtorEq, eq_self, Nat.zero_add, hal, h0, h5, Int.lt_irrefl, Tryz.f34]
    · refine wo_dcall Tryz.func34 rfl (by decide) rfl 26 rfl (fun a hal ha => ?_)
      have h0 : a[0]? = some (.nils) := ha 0 (by simp)
      have h1 : a[1]? = some (.sl 2 [] x2) := ha 1 (by simp)
      clear ha
      simp (maxSteps := 1000000) (disch := omega) only [push_cast, ↓wc_seq, ↓wc_block, ↓wc_condL, ↓wc_region, ↓wr_cons, ↓wr_nil, ↓wc_skip, ↓wc_wl, wo_some, opQ_eq, seqQ_normal, pickC_false, int_bne, Nat.reduceAdd, Nat.reduceMul, Nat.reduceLT, Nat.reduceEqDiff, ↓reduceIte, planIds, List.contains_cons, List.contains_nil, Nat.reduceBEq, setC, List.length_set, reduceCtorEq, eq_self, Nat.zero_add, not_true_eq_false, hal, h0, h1, Int.natCast_zero, List.map_nil, List.length_nil]
      refine wl_loop (fun i a T => i = 0 ∧ T = S ∧ a.length = 26 ∧ a[0]? = some (.nils) ∧ a[1]? = some (.sl 2 [] x2) ∧ a[5]? = some (.int .i64 0)) 0 ?_ (by omega) ?_
      · simp (maxSteps := 1000000) (disch := omega) only [push_cast, Nat.reduceLT, Nat.reduceEqDiff, ↓reduceIte, setC, List.length_set, reduceCtorEq, eq_self, hal, h0, h1]
      clear hal h0 h1 a
      rintro i a T _ ⟨rfl, rfl, hal, h0, h1, h5⟩
      simp (maxSteps := 1000000) (disch := omega) only [push_cast, ↓wc_seq, ↓wc_condL, ↓wc_region, ↓wr_cons, ↓wr_nil, ↓wc_exit, ↓wc_ret, wo_some, opQ_eq, seqQ_normal, seqQ_exit, blockQ_exit, iterQ_exit, retQ_ret, pickC_false, Nat.reduceAdd, Nat.reduceMul, Nat.reduceLT, Nat.reduceEqDiff, ↓reduceIte, planIds, List.contains_cons, List.contains_nil, Nat.reduceBEq, setC, List.length_set, reduceCtorEq, eq_self, Nat.zero_add, hal, h0, h5, Int.lt_irrefl, Tryz.f34]
    · refine wo_dcall Tryz.func34 rfl (by decide) rfl 26 rfl (fun a hal ha => ?_)
      have h0 : a[0]? = some (.nils) := ha 0 (by simp)
      have h1 : a[1]? = some (.os k2 0 0 false) := ha 1 (by simp)
      clear ha
      simp (maxSteps := 1000000) (disch := omega) only [push_cast, ↓wc_seq, ↓wc_block, ↓wc_condL, ↓wc_region, ↓wr_cons, ↓wr_nil, ↓wc_skip, ↓wc_wl, wo_some, opQ_eq, seqQ_normal, pickC_false, int_bne, Nat.reduceAdd, Nat.reduceMul, Nat.reduceLT, Nat.reduceEqDiff, ↓reduceIte, planIds, List.contains_cons, List.contains_nil, Nat.reduceBEq, setC, List.length_set, reduceCtorEq, eq_self, Nat.zero_add, not_true_eq_false, hal, h0, h1, Int.natCast_zero, List.map_nil, List.length_nil]
      refine wl_loop (fun i a T => i = 0 ∧ T = S ∧ a.length = 26 ∧ a[0]? = some (.nils) ∧ a[1]? = some (.os k2 0 0 false) ∧ a[5]? = some (.int .i64 0)) 0 ?_ (by omega) ?_
      · simp (maxSteps := 1000000) (disch := omega) only [push_cast, Nat.reduceLT, Nat.reduceEqDiff, ↓reduceIte, setC, List.length_set, reduceCtorEq, eq_self, hal, h0, h1]
      clear hal h0 h1 a
      rintro i a T _ ⟨rfl, rfl, hal, h0, h1, h5⟩
      simp (maxSteps := 1000000) (disch := omega) only [push_cast, ↓wc_seq, ↓wc_condL, ↓wc_region, ↓wr_cons, ↓wr_nil, ↓wc_exit, ↓wc_ret, wo_some, opQ_eq, seqQ_normal, seqQ_exit, blockQ_exit, iterQ_exit, retQ_ret, pickC_false, Nat.reduceAdd, Nat.reduceMul, Nat.reduceLT, Nat.reduceEqDiff, ↓reduceIte, planIds, List.contains_cons, List.contains_nil, Nat.reduceBEq, setC, List.length_set, reduceCtorEq, eq_self, Nat.zero_add, hal, h0, h5, Int.lt_irrefl, Tryz.f34]
  · rcases h2 with ⟨rfl, rfl⟩ | ⟨x2, rfl⟩ | ⟨k2, rfl, hk2⟩
    · refine wo_dcall Tryz.func34 rfl (by decide) rfl 26 rfl (fun a hal ha => ?_)
      have h0 : a[0]? = some (.sl 2 [] x1) := ha 0 (by simp)
      have h1 : a[1]? = some (.nils) := ha 1 (by simp)
      clear ha
      simp (maxSteps := 1000000) (disch := omega) only [push_cast, ↓wc_seq, ↓wc_block, ↓wc_condL, ↓wc_region, ↓wr_cons, ↓wr_nil, ↓wc_skip, ↓wc_wl, wo_some, opQ_eq, seqQ_normal, pickC_false, int_bne, Nat.reduceAdd, Nat.reduceMul, Nat.reduceLT, Nat.reduceEqDiff, ↓reduceIte, planIds, List.contains_cons, List.contains_nil, Nat.reduceBEq, setC, List.length_set, reduceCtorEq, eq_self, Nat.zero_add, not_true_eq_false, hal, h0, h1, Int.natCast_zero, List.map_nil, List.length_nil]
      refine wl_loop (fun i a T => i = 0 ∧ T = S ∧ a.length = 26 ∧ a[0]? = some (.sl 2 [] x1) ∧ a[1]? = some (.nils) ∧ a[5]? = some (.int .i64 0)) 0 ?_ (by omega) ?_
      · simp (maxSteps := 1000000) (disch := omega) only [push_cast, Nat.reduceLT, Nat.reduceEqDiff, ↓reduceIte, setC, List.length_set, reduceCtorEq, eq_self, hal, h0, h1]
      clear hal h0 h1 a
      rintro i a T _ ⟨rfl, rfl, hal, h0, h1, h5⟩
      simp (maxSteps := 1000000) (disch := omega) only [push_cast, ↓wc_seq, ↓wc_condL, ↓wc_region, ↓wr_cons, ↓wr_nil, ↓wc_exit, ↓wc_ret, wo_some, opQ_eq, seqQ_normal, seqQ_exit, blockQ_exit, iterQ_exit, retQ_ret, pickC_false, Nat.reduceAdd, Nat.reduceMul, Nat.reduceLT, Nat.reduceEqDiff, ↓reduceIte, planIds, List.contains_cons, List.contains_nil, Nat.reduceBEq, setC, List.length_set, reduceCtorEq, eq_self, Nat.zero_add, hal, h0, h5, Int.lt_irrefl, Tryz.f34]
    · refine wo_dcall Tryz.func34 rfl (by decide) rfl 26 rfl (fun a hal ha => ?_)
      have h0 : a[0]? = some (.sl 2 (l.map encC) x1) := ha 0 (by simp)
      have h1 : a[1]? = some (.sl 2 (l.map encC) x2) := ha 1 (by simp)
      clear ha
      simp (maxSteps := 1000000) (disch := omega) only [push_cast, ↓wc_seq, ↓wc_block, ↓wc_condL, ↓wc_region, ↓wr_cons, ↓wr_nil, ↓wc_skip, ↓wc_wl, wo_some, opQ_eq, seqQ_normal, pickC_false, int_bne, Nat.reduceAdd, Nat.reduceMul, Nat.reduceLT, Nat.reduceEqDiff, ↓reduceIte, planIds, List.contains_cons, List.contains_nil, Nat.reduceBEq, setC, List.length_set, reduceCtorEq, eq_self, Nat.zero_add, not_true_eq_false, hal, h0, h1, List.length_map]
      refine wl_loop (fun i a T => T = S ∧ a.length = 26 ∧ a[0]? = some (.sl 2 (l.map encC) x1) ∧ a[1]? = some (.sl 2 (l.map encC) x2) ∧ a[5]? = some (.int .i64 i)) l.length ?_ (by omega) ?_
      · simp (maxSteps := 1000000) (disch := omega) only [push_cast, Nat.reduceLT, Nat.reduceEqDiff, ↓reduceIte, setC, List.length_set, reduceCtorEq, eq_self, hal, h0, h1, Int.natCast_zero]
      clear hal h0 h1 a
      rintro i a T hi ⟨rfl, hal, h0, h1, h5⟩
      rcases Nat.lt_or_eq_of_le hi with hlt | rfl
      case inr =>
        simp (maxSteps := 1000000) (disch := omega) only [push_cast, ↓wc_seq, ↓wc_condL, ↓wc_region, ↓wr_cons, ↓wr_nil, ↓wc_exit, ↓wc_ret, wo_some, opQ_eq, seqQ_normal, seqQ_exit, blockQ_exit, iterQ_exit, retQ_ret, pickC_false, Nat.reduceAdd, Nat.reduceMul, Nat.reduceLT, Nat.reduceEqDiff, ↓reduceIte, planIds, List.contains_cons, List.contains_nil, Nat.reduceBEq, setC, List.length_set, reduceCtorEq, eq_self, Nat.zero_add, hal, h0, h5, Int.lt_irrefl, List.length_map, Tryz.f34]
      have hltc : (i : Int) < l.length := by omega
      obtain ⟨w, hw⟩ : ∃ w, l[i]? = some w := ⟨l[i], by simp⟩
      simp (maxSteps := 1000000) (disch := omega) only [push_cast, ↓wc_seq, ↓wc_block, ↓wc_condL, ↓wc_region, ↓wr_cons, ↓wr_nil, ↓wc_skip, wo_some, opQ_eq, seqQ_normal, blockQ_normal, iterQ_normal, pickC_true, pickC_false, Nat.reduceAdd, Nat.reduceMul, Nat.reduceLT, Nat.reduceLeDiff, Nat.reduceEqDiff, ↓reduceIte, planIds, List.contains_cons, List.contains_nil, Nat.reduceBEq, setC, List.length_set, reduceCtorEq, eq_self, Int.natCast_nonneg, Int.toNat_natCast, Nat.zero_add, hal, h0, h1, h5, hlt, hltc, hw, he, hpl, List.length_map, List.getElem?_map, encC, wrap_ok, Int.natCast_add, Int.natCast_one]
    · refine wo_dcall Tryz.func34 rfl (by decide) rfl 26 rfl (fun a hal ha => ?_)
      have h0 : a[0]? = some (.sl 2 (l.map encC) x1) := ha 0 (by simp)
      have h1 : a[1]? = some (.os k2 0 l.length false) := ha 1 (by simp)
      clear ha
      simp (maxSteps := 1000000) (disch := omega) only [push_cast, ↓wc_seq, ↓wc_block, ↓wc_condL, ↓wc_region, ↓wr_cons, ↓wr_nil, ↓wc_skip, ↓wc_wl, wo_some, opQ_eq, seqQ_normal, pickC_false, int_bne, Nat.reduceAdd, Nat.reduceMul, Nat.reduceLT, Nat.reduceEqDiff, ↓reduceIte, planIds, List.contains_cons, List.contains_nil, Nat.reduceBEq, setC, List.length_set, reduceCtorEq, eq_self, Nat.zero_add, not_true_eq_false, hal, h0, h1, List.length_map]
      refine wl_loop (fun i a T => T = S ∧ a.length = 26 ∧ a[0]? = some (.sl 2 (l.map encC) x1) ∧ a[1]? = some (.os k2 0 l.length false) ∧ a[5]? = some (.int .i64 i)) l.length ?_ (by omega) ?_
      · simp (maxSteps := 1000000) (disch := omega) only [push_cast, Nat.reduceLT, Nat.reduceEqDiff, ↓reduceIte, setC, List.length_set, reduceCtorEq, eq_self, hal, h0, h1, Int.natCast_zero]
      clear hal h0 h1 a
      rintro i a T hi ⟨rfl, hal, h0, h1, h5⟩
      rcases Nat.lt_or_eq_of_le hi with hlt | rfl
      case inr =>
        simp (maxSteps := 1000000) (disch := omega) only [push_cast, ↓wc_seq, ↓wc_condL, ↓wc_region, ↓wr_cons, ↓wr_nil, ↓wc_exit, ↓wc_ret, wo_some, opQ_eq, seqQ_normal, seqQ_exit, blockQ_exit, iterQ_exit, retQ_ret, pickC_false, Nat.reduceAdd, Nat.reduceMul, Nat.reduceLT, Nat.reduceEqDiff, ↓reduceIte, planIds, List.contains_cons, List.contains_nil, Nat.reduceBEq, setC, List.length_set, reduceCtorEq, eq_self, Nat.zero_add, hal, h0, h5, Int.lt_irrefl, List.length_map, Tryz.f34]
      have hltc : (i : Int) < l.length := by omega
      obtain ⟨w, hw⟩ : ∃ w, l[i]? = some w := ⟨l[i], by simp⟩
      simp (maxSteps := 1000000) (disch := omega) only [push_cast, ↓wc_seq, ↓wc_block, ↓wc_condL, ↓wc_region, ↓wr_cons, ↓wr_nil, ↓wc_skip, wo_some, opQ_eq, seqQ_normal, blockQ_normal, iterQ_normal, pickC_true, pickC_false, Nat.reduceAdd, Nat.reduceMul, Nat.reduceLT, Nat.reduceLeDiff, Nat.reduceEqDiff, ↓reduceIte, planIds, List.contains_cons, List.contains_nil, Nat.reduceBEq, setC, List.length_set, reduceCtorEq, eq_self, Int.natCast_nonneg, Int.toNat_natCast, Nat.zero_add, hal, h0, h1, h5, hlt, hltc, hk2, hw, he, hpl, List.length_map, List.getElem?_map, encC, wrap_ok, Int.natCast_add, Int.natCast_one]
  · rcases h2 with ⟨rfl, rfl⟩ | ⟨x2, rfl⟩ | ⟨k2, rfl, hk2⟩
    · refine wo_dcall Tryz.func34 rfl (by decide) rfl 26 rfl (fun a hal ha => ?_)
      have h0 : a[0]? = some (.os k1 0 0 false) := ha 0 (by simp)
      have h1 : a[1]? = some (.nils) := ha 1 (by simp)
      clear ha
      simp (maxSteps := 1000000) (disch := omega) only [push_cast, ↓wc_seq, ↓wc_block, ↓wc_condL, ↓wc_region, ↓wr_cons, ↓wr_nil, ↓wc_skip, ↓wc_wl, wo_some, opQ_eq, seqQ_normal, pickC_false, int_bne, Nat.reduceAdd, Nat.reduceMul, Nat.reduceLT, Nat.reduceEqDiff, ↓reduceIte, planIds, List.contains_cons, List.contains_nil, Nat.reduceBEq, setC, List.length_set, reduceCtorEq, eq_self, Nat.zero_add, not_true_eq_false, hal, h0, h1, Int.natCast_zero, List.map_nil, List.length_nil]
      refine wl_loop (fun i a T => i = 0 ∧ T = S ∧ a.length = 26 ∧ a[0]? = some (.os k1 0 0 false) ∧ a[1]? = some (.nils) ∧ a[5]? = some (.int .i64 0)) 0 ?_ (by omega) ?_
      · simp (maxSteps := 1000000) (disch := omega) only [push_cast, Nat.reduceLT, Nat.reduceEqDiff, ↓reduceIte, setC, List.length_set, reduceCtorEq, eq_self, hal, h0, h1]
      clear hal h0 h1 a
      rintro i a T _ ⟨rfl, rfl, hal, h0, h1, h5⟩
      simp (maxSteps := 1000000) (disch := omega) only [push_cast, ↓wc_seq, ↓wc_condL, ↓wc_region, ↓wr_cons, ↓wr_nil, ↓wc_exit, ↓wc_ret, wo_some, opQ_eq, seqQ_normal, seqQ_exit, blockQ_exit, iterQ_exit, retQ_ret, pickC_false, Nat.reduceAdd, Nat.reduceMul, Nat.reduceLT, Nat.reduceEqDiff, ↓reduceIte, planIds, List.contains_cons, List.contains_nil, Nat.reduceBEq, setC, List.length_set, reduceCtorEq, eq_self, Nat.zero_add, hal, h0, h5, Int.lt_irrefl, Tryz.f34]
    · refine wo_dcall Tryz.func34 rfl (by decide) rfl 26 rfl (fun a hal ha => ?_)
      have h0 : a[0]? = some (.os k1 0 l.length false) := ha 0 (by simp)
      have h1 : a[1]? = some (.sl 2 (l.map encC) x2) := ha 1 (by simp)
      clear ha
      simp (maxSteps := 1000000) (disch := omega) only [push_cast, ↓wc_seq, ↓wc_block, ↓wc_condL, ↓wc_region, ↓wr_cons, ↓wr_nil, ↓wc_skip, ↓wc_wl, wo_some, opQ_eq, seqQ_normal, pickC_false, int_bne, Nat.reduceAdd, Nat.reduceMul, Nat.reduceLT, Nat.reduceEqDiff, ↓reduceIte, planIds, List.contains_cons, List.contains_nil, Nat.reduceBEq, setC, List.length_set, reduceCtorEq, eq_self, Nat.zero_add, not_true_eq_false, hal, h0, h1, List.length_map]
      refine wl_loop (fun i a T => T = S ∧ a.length = 26 ∧ a[0]? = some (.os k1 0 l.length false) ∧ a[1]? = some (.sl 2 (l.map encC) x2) ∧ a[5]? = some (.int .i64 i)) l.length ?_ (by omega) ?_
      · simp (maxSteps := 1000000) (disch := omega) only [push_cast, Nat.reduceLT, Nat.reduceEqDiff, ↓reduceIte, setC, List.length_set, reduceCtorEq, eq_self, hal, h0, h1, Int.natCast_zero]
      clear hal h0 h1 a
      rintro i a T hi ⟨rfl, hal, h0, h1, h5⟩
      rcases Nat.lt_or_eq_of_le hi with hlt | rfl
      case inr =>
        simp (maxSteps := 1000000) (disch := omega) only [push_cast, ↓wc_seq, ↓wc_condL, ↓wc_region, ↓wr_cons, ↓wr_nil, ↓wc_exit, ↓wc_ret, wo_some, opQ_eq, seqQ_normal, seqQ_exit, blockQ_exit, iterQ_exit, retQ_ret, pickC_false, Nat.reduceAdd, Nat.reduceMul, Nat.reduceLT, Nat.reduceEqDiff, ↓reduceIte, planIds, List.contains_cons, List.contains_nil, Nat.reduceBEq, setC, List.length_set, reduceCtorEq, eq_self, Nat.zero_add, hal, h0, h5, Int.lt_irrefl, Tryz.f34]
      have hltc : (i : Int) < l.length := by omega
      obtain ⟨w, hw⟩ : ∃ w, l[i]? = some w := ⟨l[i], by simp⟩
      simp (maxSteps := 1000000) (disch := omega) only [push_cast, ↓wc_seq, ↓wc_block, ↓wc_condL, ↓wc_region, ↓wr_cons, ↓wr_nil, ↓wc_skip, wo_some, opQ_eq, seqQ_normal, blockQ_normal, iterQ_normal, pickC_true, pickC_false, Nat.reduceAdd, Nat.reduceMul, Nat.reduceLT, Nat.reduceLeDiff, Nat.reduceEqDiff, ↓reduceIte, planIds, List.contains_cons, List.contains_nil, Nat.reduceBEq, setC, List.length_set, reduceCtorEq, eq_self, Int.natCast_nonneg, Int.toNat_natCast, Nat.zero_add, hal, h0, h1, h5, hlt, hltc, hk1, hw, he, hpl, List.getElem?_map, encC, wrap_ok, Int.natCast_add, Int.natCast_one]
    · refine wo_dcall Tryz.func34 rfl (by decide) rfl 26 rfl (fun a hal ha => ?_)
      have h0 : a[0]? = some (.os k1 0 l.length false) := ha 0 (by simp)
      have h1 : a[1]? = some (.os k2 0 l.length false) := ha 1 (by simp)
      clear ha
      simp (maxSteps := 1000000) (disch := omega) only [push_cast, ↓wc_seq, ↓wc_block, ↓wc_condL, ↓wc_region, ↓wr_cons, ↓wr_nil, ↓wc_skip, ↓wc_wl, wo_some, opQ_eq, seqQ_normal, pickC_false, int_bne, Nat.reduceAdd, Nat.reduceMul, Nat.reduceLT, Nat.reduceEqDiff, ↓reduceIte, planIds, List.contains_cons, List.contains_nil, Nat.reduceBEq, setC, List.length_set, reduceCtorEq, eq_self, Nat.zero_add, not_true_eq_false, hal, h0, h1]
      refine wl_loop (fun i a T => T = S ∧ a.length = 26 ∧ a[0]? = some (.os k1 0 l.length false) ∧ a[1]? = some (.os k2 0 l.length false) ∧ a[5]? = some (.int .i64 i)) l.length ?_ (by omega) ?_
      · simp (maxSteps := 1000000) (disch := omega) only [push_cast, Nat.reduceLT, Nat.reduceEqDiff, ↓reduceIte, setC, List.length_set, reduceCtorEq, eq_self, hal, h0, h1, Int.natCast_zero]
      clear hal h0 h1 a
      rintro i a T hi ⟨rfl, hal, h0, h1, h5⟩
      rcases Nat.lt_or_eq_of_le hi with hlt | rfl
      case inr =>
        simp (maxSteps := 1000000) (disch := omega) only [push_cast, ↓wc_seq, ↓wc_condL, ↓wc_region, ↓wr_cons, ↓wr_nil, ↓wc_exit, ↓wc_ret, wo_some, opQ_eq, seqQ_normal, seqQ_exit, blockQ_exit, iterQ_exit, retQ_ret, pickC_false, Nat.reduceAdd, Nat.reduceMul, Nat.reduceLT, Nat.reduceEqDiff, ↓reduceIte, planIds, List.contains_cons, List.contains_nil, Nat.reduceBEq, setC, List.length_set, reduceCtorEq, eq_self, Nat.zero_add, hal, h0, h5, Int.lt_irrefl, Tryz.f34]
      have hltc : (i : Int) < l.length := by omega
      obtain ⟨w, hw⟩ : ∃ w, l[i]? = some w := ⟨l[i], by simp⟩
      simp (maxSteps := 1000000) (disch := omega) only [push_cast, ↓wc_seq, ↓wc_block, ↓wc_condL, ↓wc_region, ↓wr_cons, ↓wr_nil, ↓wc_skip, wo_some, opQ_eq, seqQ_normal, blockQ_normal, iterQ_normal, pickC_true, pickC_false, Nat.reduceAdd, Nat.reduceMul, Nat.reduceLT, Nat.reduceLeDiff, Nat.reduceEqDiff, ↓reduceIte, planIds, List.contains_cons, List.contains_nil, Nat.reduceBEq, setC, List.length_set, reduceCtorEq, eq_self, Int.natCast_nonneg, Int.toNat_natCast, Nat.zero_add, hal, h0, h1, h5, hlt, hltc, hk1, hk2, hw, he, hpl, List.getElem?_map, encC, wrap_ok, Int.natCast_add, Int.natCast_one]
theorem sameCounts_c {n : Nat} {S : List Ob} {d1 d2 : D} {l : List (ByteArray × Int)} (hn : 1020 ≤ n) (hl : l.length ≤ 1000) (h1 : LS 2 encC S d1 l) (h2 : LS 2 encC S d2 l) (st : Bool) :
    callD E (dcall E n) st S 34 [d1, d2] = some (.bool true, S) := by
  obtain ⟨q, rfl⟩ : ∃ q, n = q + 1 := ⟨n - 1, by omega⟩
  cases hp : pureL [d1, d2]
  · obtain ⟨_, T, ho, rfl, rfl⟩ := sameCounts_d (n := q) (by omega) hl h1 h2
    exact callD_obs rfl hp ho rfl
  · have hp' := hp
    simp only [pureL_cons, pureL_nil, Bool.and_true, Bool.and_eq_true] at hp'
    obtain ⟨_, T, ho, rfl, rfl⟩ := sameCounts_d (n := q) (S := []) (by omega) hl (h1.pure hp'.1) (h2.pure hp'.2)
    exact callD_obsP rfl hp ho rfl
set_option maxHeartbeats 8000000 in
set_option maxRecDepth 100000 in
theorem sameIds_d {n : Nat} {S : List Ob} {d1 d2 : D} {l : List Lid} (hn : 1010 ≤ n) (hl : l.length ≤ 1000) (h1 : LS 4 Lid.enc S d1 l) (h2 : LS 4 Lid.enc S d2 l) :
    WO (dcall E (n + 1) 79 [d1, d2] S) fun r T => r = .bool true ∧ T = S := by
  have he := fun w => eq_lid w w
  have hpl := plain_lid
  simp only [decide_true, Lid.enc] at he
  rcases h1 with ⟨rfl, rfl⟩ | ⟨x1, rfl⟩ | ⟨k1, rfl, hk1⟩
  · rcases h2 with ⟨rfl, -⟩ | ⟨x2, rfl⟩ | ⟨k2, rfl, hk2⟩
    · refine wo_dcall Tryz.func79 rfl (by decide) rfl 26 rfl (fun a hal ha => ?_)
      have h0 : a[0]? = some (.nils) := ha 0 (by simp)
      have h1 : a[1]? = some (.nils) := ha 1 (by simp)
      clear ha
      simp (maxSteps := 1000000) (disch := omega) only [push_cast, ↓wc_seq, ↓wc_block, ↓wc_condL, ↓wc_region, ↓wr_cons, ↓wr_nil, ↓wc_skip, ↓wc_wl, wo_some, opQ_eq, seqQ_normal, pickC_false, int_bne, Nat.reduceAdd, Nat.reduceMul, Nat.reduceLT, Nat.reduceEqDiff, ↓reduceIte, planIds, List.contains_cons, List.contains_nil, Nat.reduceBEq, setC, List.length_set, reduceCtorEq, eq_self, Nat.zero_add, not_true_eq_false, hal, h0, h1, List.map_nil, List.length_nil]
      refine wl_loop (fun i a T => i = 0 ∧ T = S ∧ a.length = 26 ∧ a[0]? = some (.nils) ∧ a[1]? = some (.nils) ∧ a[5]? = some (.int .i64 0)) 0 ?_ (by omega) ?_
      · simp (maxSteps := 1000000) (disch := omega) only [push_cast, Nat.reduceLT, Nat.reduceEqDiff, ↓reduceIte, setC, List.length_set, reduceCtorEq, eq_self, hal, h0, h1]
      clear hal h0 h1 a
      rintro i a T _ ⟨rfl, rfl, hal, h0, h1, h5⟩
      simp (maxSteps := 1000000) (disch := omega) only [push_cast, ↓wc_seq, ↓wc_condL, ↓wc_region, ↓wr_cons, ↓wr_nil, ↓wc_exit, ↓wc_ret, wo_some, opQ_eq, seqQ_normal, seqQ_exit, blockQ_exit, iterQ_exit, retQ_ret, pickC_false, Nat.reduceAdd, Nat.reduceMul, Nat.reduceLT, Nat.reduceEqDiff, ↓reduceIte, planIds, List.contains_cons, List.contains_nil, Nat.reduceBEq, setC, List.length_set, reduceCtorEq, eq_self, Nat.zero_add, hal, h0, h5, Int.lt_irrefl, Tryz.f79]
    · refine wo_dcall Tryz.func79 rfl (by decide) rfl 26 rfl (fun a hal ha => ?_)
      have h0 : a[0]? = some (.nils) := ha 0 (by simp)
      have h1 : a[1]? = some (.sl 4 [] x2) := ha 1 (by simp)
      clear ha
      simp (maxSteps := 1000000) (disch := omega) only [push_cast, ↓wc_seq, ↓wc_block, ↓wc_condL, ↓wc_region, ↓wr_cons, ↓wr_nil, ↓wc_skip, ↓wc_wl, wo_some, opQ_eq, seqQ_normal, pickC_false, int_bne, Nat.reduceAdd, Nat.reduceMul, Nat.reduceLT, Nat.reduceEqDiff, ↓reduceIte, planIds, List.contains_cons, List.contains_nil, Nat.reduceBEq, setC, List.length_set, reduceCtorEq, eq_self, Nat.zero_add, not_true_eq_false, hal, h0, h1, Int.natCast_zero, List.map_nil, List.length_nil]
      refine wl_loop (fun i a T => i = 0 ∧ T = S ∧ a.length = 26 ∧ a[0]? = some (.nils) ∧ a[1]? = some (.sl 4 [] x2) ∧ a[5]? = some (.int .i64 0)) 0 ?_ (by omega) ?_
      · simp (maxSteps := 1000000) (disch := omega) only [push_cast, Nat.reduceLT, Nat.reduceEqDiff, ↓reduceIte, setC, List.length_set, reduceCtorEq, eq_self, hal, h0, h1]
      clear hal h0 h1 a
      rintro i a T _ ⟨rfl, rfl, hal, h0, h1, h5⟩
      simp (maxSteps := 1000000) (disch := omega) only [push_cast, ↓wc_seq, ↓wc_condL, ↓wc_region, ↓wr_cons, ↓wr_nil, ↓wc_exit, ↓wc_ret, wo_some, opQ_eq, seqQ_normal, seqQ_exit, blockQ_exit, iterQ_exit, retQ_ret, pickC_false, Nat.reduceAdd, Nat.reduceMul, Nat.reduceLT, Nat.reduceEqDiff, ↓reduceIte, planIds, List.contains_cons, List.contains_nil, Nat.reduceBEq, setC, List.length_set, reduceCtorEq, eq_self, Nat.zero_add, hal, h0, h5, Int.lt_irrefl, Tryz.f79]
    · refine wo_dcall Tryz.func79 rfl (by decide) rfl 26 rfl (fun a hal ha => ?_)
      have h0 : a[0]? = some (.nils) := ha 0 (by simp)
      have h1 : a[1]? = some (.os k2 0 0 false) := ha 1 (by simp)
      clear ha
      simp (maxSteps := 1000000) (disch := omega) only [push_cast, ↓wc_seq, ↓wc_block, ↓wc_condL, ↓wc_region, ↓wr_cons, ↓wr_nil, ↓wc_skip, ↓wc_wl, wo_some, opQ_eq, seqQ_normal, pickC_false, int_bne, Nat.reduceAdd, Nat.reduceMul, Nat.reduceLT, Nat.reduceEqDiff, ↓reduceIte, planIds, List.contains_cons, List.contains_nil, Nat.reduceBEq, setC, List.length_set, reduceCtorEq, eq_self, Nat.zero_add, not_true_eq_false, hal, h0, h1, Int.natCast_zero, List.map_nil, List.length_nil]
      refine wl_loop (fun i a T => i = 0 ∧ T = S ∧ a.length = 26 ∧ a[0]? = some (.nils) ∧ a[1]? = some (.os k2 0 0 false) ∧ a[5]? = some (.int .i64 0)) 0 ?_ (by omega) ?_
      · simp (maxSteps := 1000000) (disch := omega) only [push_cast, Nat.reduceLT, Nat.reduceEqDiff, ↓reduceIte, setC, List.length_set, reduceCtorEq, eq_self, hal, h0, h1]
      clear hal h0 h1 a
      rintro i a T _ ⟨rfl, rfl, hal, h0, h1, h5⟩
      simp (maxSteps := 1000000) (disch := omega) only [push_cast, ↓wc_seq, ↓wc_condL, ↓wc_region, ↓wr_cons, ↓wr_nil, ↓wc_exit, ↓wc_ret, wo_some, opQ_eq, seqQ_normal, seqQ_exit, blockQ_exit, iterQ_exit, retQ_ret, pickC_false, Nat.reduceAdd, Nat.reduceMul, Nat.reduceLT, Nat.reduceEqDiff, ↓reduceIte, planIds, List.contains_cons, List.contains_nil, Nat.reduceBEq, setC, List.length_set, reduceCtorEq, eq_self, Nat.zero_add, hal, h0, h5, Int.lt_irrefl, Tryz.f79]
  · rcases h2 with ⟨rfl, rfl⟩ | ⟨x2, rfl⟩ | ⟨k2, rfl, hk2⟩
    · refine wo_dcall Tryz.func79 rfl (by decide) rfl 26 rfl (fun a hal ha => ?_)
      have h0 : a[0]? = some (.sl 4 [] x1) := ha 0 (by simp)
      have h1 : a[1]? = some (.nils) := ha 1 (by simp)
      clear ha
      simp (maxSteps := 1000000) (disch := omega) only [push_cast, ↓wc_seq, ↓wc_block, ↓wc_condL, ↓wc_region, ↓wr_cons, ↓wr_nil, ↓wc_skip, ↓wc_wl, wo_some, opQ_eq, seqQ_normal, pickC_false, int_bne, Nat.reduceAdd, Nat.reduceMul, Nat.reduceLT, Nat.reduceEqDiff, ↓reduceIte, planIds, List.contains_cons, List.contains_nil, Nat.reduceBEq, setC, List.length_set, reduceCtorEq, eq_self, Nat.zero_add, not_true_eq_false, hal, h0, h1, Int.natCast_zero, List.map_nil, List.length_nil]
      refine wl_loop (fun i a T => i = 0 ∧ T = S ∧ a.length = 26 ∧ a[0]? = some (.sl 4 [] x1) ∧ a[1]? = some (.nils) ∧ a[5]? = some (.int .i64 0)) 0 ?_ (by omega) ?_
      · simp (maxSteps := 1000000) (disch := omega) only [push_cast, Nat.reduceLT, Nat.reduceEqDiff, ↓reduceIte, setC, List.length_set, reduceCtorEq, eq_self, hal, h0, h1]
      clear hal h0 h1 a
      rintro i a T _ ⟨rfl, rfl, hal, h0, h1, h5⟩
      simp (maxSteps := 1000000) (disch := omega) only [push_cast, ↓wc_seq, ↓wc_condL, ↓wc_region, ↓wr_cons, ↓wr_nil, ↓wc_exit, ↓wc_ret, wo_some, opQ_eq, seqQ_normal, seqQ_exit, blockQ_exit, iterQ_exit, retQ_ret, pickC_false, Nat.reduceAdd, Nat.reduceMul, Nat.reduceLT, Nat.reduceEqDiff, ↓reduceIte, planIds, List.contains_cons, List.contains_nil, Nat.reduceBEq, setC, List.length_set, reduceCtorEq, eq_self, Nat.zero_add, hal, h0, h5, Int.lt_irrefl, Tryz.f79]
    · refine wo_dcall Tryz.func79 rfl (by decide) rfl 26 rfl (fun a hal ha => ?_)
      have h0 : a[0]? = some (.sl 4 (l.map Lid.enc) x1) := ha 0 (by simp)
      have h1 : a[1]? = some (.sl 4 (l.map Lid.enc) x2) := ha 1 (by simp)
      clear ha
      simp (maxSteps := 1000000) (disch := omega) only [push_cast, ↓wc_seq, ↓wc_block, ↓wc_condL, ↓wc_region, ↓wr_cons, ↓wr_nil, ↓wc_skip, ↓wc_wl, wo_some, opQ_eq, seqQ_normal, pickC_false, int_bne, Nat.reduceAdd, Nat.reduceMul, Nat.reduceLT, Nat.reduceEqDiff, ↓reduceIte, planIds, List.contains_cons, List.contains_nil, Nat.reduceBEq, setC, List.length_set, reduceCtorEq, eq_self, Nat.zero_add, not_true_eq_false, hal, h0, h1, List.length_map]
      refine wl_loop (fun i a T => T = S ∧ a.length = 26 ∧ a[0]? = some (.sl 4 (l.map Lid.enc) x1) ∧ a[1]? = some (.sl 4 (l.map Lid.enc) x2) ∧ a[5]? = some (.int .i64 i)) l.length ?_ (by omega) ?_
      · simp (maxSteps := 1000000) (disch := omega) only [push_cast, Nat.reduceLT, Nat.reduceEqDiff, ↓reduceIte, setC, List.length_set, reduceCtorEq, eq_self, hal, h0, h1, Int.natCast_zero]
      clear hal h0 h1 a
      rintro i a T hi ⟨rfl, hal, h0, h1, h5⟩
      rcases Nat.lt_or_eq_of_le hi with hlt | rfl
      case inr =>
        simp (maxSteps := 1000000) (disch := omega) only [push_cast, ↓wc_seq, ↓wc_condL, ↓wc_region, ↓wr_cons, ↓wr_nil, ↓wc_exit, ↓wc_ret, wo_some, opQ_eq, seqQ_normal, seqQ_exit, blockQ_exit, iterQ_exit, retQ_ret, pickC_false, Nat.reduceAdd, Nat.reduceMul, Nat.reduceLT, Nat.reduceEqDiff, ↓reduceIte, planIds, List.contains_cons, List.contains_nil, Nat.reduceBEq, setC, List.length_set, reduceCtorEq, eq_self, Nat.zero_add, hal, h0, h5, Int.lt_irrefl, List.length_map, Tryz.f79]
      have hltc : (i : Int) < l.length := by omega
      obtain ⟨w, hw⟩ : ∃ w, l[i]? = some w := ⟨l[i], by simp⟩
      simp (maxSteps := 1000000) (disch := omega) only [push_cast, ↓wc_seq, ↓wc_block, ↓wc_condL, ↓wc_region, ↓wr_cons, ↓wr_nil, ↓wc_skip, wo_some, opQ_eq, seqQ_normal, blockQ_normal, iterQ_normal, pickC_true, pickC_false, Nat.reduceAdd, Nat.reduceMul, Nat.reduceLT, Nat.reduceLeDiff, Nat.reduceEqDiff, ↓reduceIte, planIds, List.contains_cons, List.contains_nil, Nat.reduceBEq, setC, List.length_set, reduceCtorEq, eq_self, Int.natCast_nonneg, Int.toNat_natCast, Nat.zero_add, hal, h0, h1, h5, hlt, hltc, hw, he, hpl, List.length_map, List.getElem?_map, Lid.enc, wrap_ok, Int.natCast_add, Int.natCast_one]
    · refine wo_dcall Tryz.func79 rfl (by decide) rfl 26 rfl (fun a hal ha => ?_)
      have h0 : a[0]? = some (.sl 4 (l.map Lid.enc) x1) := ha 0 (by simp)
      have h1 : a[1]? = some (.os k2 0 l.length false) := ha 1 (by simp)
      clear ha
      simp (maxSteps := 1000000) (disch := omega) only [push_cast, ↓wc_seq, ↓wc_block, ↓wc_condL, ↓wc_region, ↓wr_cons, ↓wr_nil, ↓wc_skip, ↓wc_wl, wo_some, opQ_eq, seqQ_normal, pickC_false, int_bne, Nat.reduceAdd, Nat.reduceMul, Nat.reduceLT, Nat.reduceEqDiff, ↓reduceIte, planIds, List.contains_cons, List.contains_nil, Nat.reduceBEq, setC, List.length_set, reduceCtorEq, eq_self, Nat.zero_add, not_true_eq_false, hal, h0, h1, List.length_map]
      refine wl_loop (fun i a T => T = S ∧ a.length = 26 ∧ a[0]? = some (.sl 4 (l.map Lid.enc) x1) ∧ a[1]? = some (.os k2 0 l.length false) ∧ a[5]? = some (.int .i64 i)) l.length ?_ (by omega) ?_
      · simp (maxSteps := 1000000) (disch := omega) only [push_cast, Nat.reduceLT, Nat.reduceEqDiff, ↓reduceIte, setC, List.length_set, reduceCtorEq, eq_self, hal, h0, h1, Int.natCast_zero]
      clear hal h0 h1 a
      rintro i a T hi ⟨rfl, hal, h0, h1, h5⟩
      rcases Nat.lt_or_eq_of_le hi with hlt | rfl
      case inr =>
        simp (maxSteps := 1000000) (disch := omega) only [push_cast, ↓wc_seq, ↓wc_condL, ↓wc_region, ↓wr_cons, ↓wr_nil, ↓wc_exit, ↓wc_ret, wo_some, opQ_eq, seqQ_normal, seqQ_exit, blockQ_exit, iterQ_exit, retQ_ret, pickC_false, Nat.reduceAdd, Nat.reduceMul, Nat.reduceLT, Nat.reduceEqDiff, ↓reduceIte, planIds, List.contains_cons, List.contains_nil, Nat.reduceBEq, setC, List.length_set, reduceCtorEq, eq_self, Nat.zero_add, hal, h0, h5, Int.lt_irrefl, List.length_map, Tryz.f79]
      have hltc : (i : Int) < l.length := by omega
      obtain ⟨w, hw⟩ : ∃ w, l[i]? = some w := ⟨l[i], by simp⟩
      simp (maxSteps := 1000000) (disch := omega) only [push_cast, ↓wc_seq, ↓wc_block, ↓wc_condL, ↓wc_region, ↓wr_cons, ↓wr_nil, ↓wc_skip, wo_some, opQ_eq, seqQ_normal, blockQ_normal, iterQ_normal, pickC_true, pickC_false, Nat.reduceAdd, Nat.reduceMul, Nat.reduceLT, Nat.reduceLeDiff, Nat.reduceEqDiff, ↓reduceIte, planIds, List.contains_cons, List.contains_nil, Nat.reduceBEq, setC, List.length_set, reduceCtorEq, eq_self, Int.natCast_nonneg, Int.toNat_natCast, Nat.zero_add, hal, h0, h1, h5, hlt, hltc, hk2, hw, he, hpl, List.length_map, List.getElem?_map, Lid.enc, wrap_ok, Int.natCast_add, Int.natCast_one]
  · rcases h2 with ⟨rfl, rfl⟩ | ⟨x2, rfl⟩ | ⟨k2, rfl, hk2⟩
    · refine wo_dcall Tryz.func79 rfl (by decide) rfl 26 rfl (fun a hal ha => ?_)
      have h0 : a[0]? = some (.os k1 0 0 false) := ha 0 (by simp)
      have h1 : a[1]? = some (.nils) := ha 1 (by simp)
      clear ha
      simp (maxSteps := 1000000) (disch := omega) only [push_cast, ↓wc_seq, ↓wc_block, ↓wc_condL, ↓wc_region, ↓wr_cons, ↓wr_nil, ↓wc_skip, ↓wc_wl, wo_some, opQ_eq, seqQ_normal, pickC_false, int_bne, Nat.reduceAdd, Nat.reduceMul, Nat.reduceLT, Nat.reduceEqDiff, ↓reduceIte, planIds, List.contains_cons, List.contains_nil, Nat.reduceBEq, setC, List.length_set, reduceCtorEq, eq_self, Nat.zero_add, not_true_eq_false, hal, h0, h1, Int.natCast_zero, List.map_nil, List.length_nil]
      refine wl_loop (fun i a T => i = 0 ∧ T = S ∧ a.length = 26 ∧ a[0]? = some (.os k1 0 0 false) ∧ a[1]? = some (.nils) ∧ a[5]? = some (.int .i64 0)) 0 ?_ (by omega) ?_
      · simp (maxSteps := 1000000) (disch := omega) only [push_cast, Nat.reduceLT, Nat.reduceEqDiff, ↓reduceIte, setC, List.length_set, reduceCtorEq, eq_self, hal, h0, h1]
      clear hal h0 h1 a
      rintro i a T _ ⟨rfl, rfl, hal, h0, h1, h5⟩
      simp (maxSteps := 1000000) (disch := omega) only [push_cast, ↓wc_seq, ↓wc_condL, ↓wc_region, ↓wr_cons, ↓wr_nil, ↓wc_exit, ↓wc_ret, wo_some, opQ_eq, seqQ_normal, seqQ_exit, blockQ_exit, iterQ_exit, retQ_ret, pickC_false, Nat.reduceAdd, Nat.reduceMul, Nat.reduceLT, Nat.reduceEqDiff, ↓reduceIte, planIds, List.contains_cons, List.contains_nil, Nat.reduceBEq, setC, List.length_set, reduceCtorEq, eq_self, Nat.zero_add, hal, h0, h5, Int.lt_irrefl, Tryz.f79]
    · refine wo_dcall Tryz.func79 rfl (by decide) rfl 26 rfl (fun a hal ha => ?_)
      have h0 : a[0]? = some (.os k1 0 l.length false) := ha 0 (by simp)
      have h1 : a[1]? = some (.sl 4 (l.map Lid.enc) x2) := ha 1 (by simp)
      clear ha
      simp (maxSteps := 1000000) (disch := omega) only [push_cast, ↓wc_seq, ↓wc_block, ↓wc_condL, ↓wc_region, ↓wr_cons, ↓wr_nil, ↓wc_skip, ↓wc_wl, wo_some, opQ_eq, seqQ_normal, pickC_false, int_bne, Nat.reduceAdd, Nat.reduceMul, Nat.reduceLT, Nat.reduceEqDiff, ↓reduceIte, planIds, List.contains_cons, List.contains_nil, Nat.reduceBEq, setC, List.length_set, reduceCtorEq, eq_self, Nat.zero_add, not_true_eq_false, hal, h0, h1, List.length_map]
      refine wl_loop (fun i a T => T = S ∧ a.length = 26 ∧ a[0]? = some (.os k1 0 l.length false) ∧ a[1]? = some (.sl 4 (l.map Lid.enc) x2) ∧ a[5]? = some (.int .i64 i)) l.length ?_ (by omega) ?_
      · simp (maxSteps := 1000000) (disch := omega) only [push_cast, Nat.reduceLT, Nat.reduceEqDiff, ↓reduceIte, setC, List.length_set, reduceCtorEq, eq_self, hal, h0, h1, Int.natCast_zero]
      clear hal h0 h1 a
      rintro i a T hi ⟨rfl, hal, h0, h1, h5⟩
      rcases Nat.lt_or_eq_of_le hi with hlt | rfl
      case inr =>
        simp (maxSteps := 1000000) (disch := omega) only [push_cast, ↓wc_seq, ↓wc_condL, ↓wc_region, ↓wr_cons, ↓wr_nil, ↓wc_exit, ↓wc_ret, wo_some, opQ_eq, seqQ_normal, seqQ_exit, blockQ_exit, iterQ_exit, retQ_ret, pickC_false, Nat.reduceAdd, Nat.reduceMul, Nat.reduceLT, Nat.reduceEqDiff, ↓reduceIte, planIds, List.contains_cons, List.contains_nil, Nat.reduceBEq, setC, List.length_set, reduceCtorEq, eq_self, Nat.zero_add, hal, h0, h5, Int.lt_irrefl, Tryz.f79]
      have hltc : (i : Int) < l.length := by omega
      obtain ⟨w, hw⟩ : ∃ w, l[i]? = some w := ⟨l[i], by simp⟩
      simp (maxSteps := 1000000) (disch := omega) only [push_cast, ↓wc_seq, ↓wc_block, ↓wc_condL, ↓wc_region, ↓wr_cons, ↓wr_nil, ↓wc_skip, wo_some, opQ_eq, seqQ_normal, blockQ_normal, iterQ_normal, pickC_true, pickC_false, Nat.reduceAdd, Nat.reduceMul, Nat.reduceLT, Nat.reduceLeDiff, Nat.reduceEqDiff, ↓reduceIte, planIds, List.contains_cons, List.contains_nil, Nat.reduceBEq, setC, List.length_set, reduceCtorEq, eq_self, Int.natCast_nonneg, Int.toNat_natCast, Nat.zero_add, hal, h0, h1, h5, hlt, hltc, hk1, hw, he, hpl, List.getElem?_map, Lid.enc, wrap_ok, Int.natCast_add, Int.natCast_one]
    · refine wo_dcall Tryz.func79 rfl (by decide) rfl 26 rfl (fun a hal ha => ?_)
      have h0 : a[0]? = some (.os k1 0 l.length false) := ha 0 (by simp)
      have h1 : a[1]? = some (.os k2 0 l.length false) := ha 1 (by simp)
      clear ha
      simp (maxSteps := 1000000) (disch := omega) only [push_cast, ↓wc_seq, ↓wc_block, ↓wc_condL, ↓wc_region, ↓wr_cons, ↓wr_nil, ↓wc_skip, ↓wc_wl, wo_some, opQ_eq, seqQ_normal, pickC_false, int_bne, Nat.reduceAdd, Nat.reduceMul, Nat.reduceLT, Nat.reduceEqDiff, ↓reduceIte, planIds, List.contains_cons, List.contains_nil, Nat.reduceBEq, setC, List.length_set, reduceCtorEq, eq_self, Nat.zero_add, not_true_eq_false, hal, h0, h1]
      refine wl_loop (fun i a T => T = S ∧ a.length = 26 ∧ a[0]? = some (.os k1 0 l.length false) ∧ a[1]? = some (.os k2 0 l.length false) ∧ a[5]? = some (.int .i64 i)) l.length ?_ (by omega) ?_
      · simp (maxSteps := 1000000) (disch := omega) only [push_cast, Nat.reduceLT, Nat.reduceEqDiff, ↓reduceIte, setC, List.length_set, reduceCtorEq, eq_self, hal, h0, h1, Int.natCast_zero]
      clear hal h0 h1 a
      rintro i a T hi ⟨rfl, hal, h0, h1, h5⟩
      rcases Nat.lt_or_eq_of_le hi with hlt | rfl
      case inr =>
        simp (maxSteps := 1000000) (disch := omega) only [push_cast, ↓wc_seq, ↓wc_condL, ↓wc_region, ↓wr_cons, ↓wr_nil, ↓wc_exit, ↓wc_ret, wo_some, opQ_eq, seqQ_normal, seqQ_exit, blockQ_exit, iterQ_exit, retQ_ret, pickC_false, Nat.reduceAdd, Nat.reduceMul, Nat.reduceLT, Nat.reduceEqDiff, ↓reduceIte, planIds, List.contains_cons, List.contains_nil, Nat.reduceBEq, setC, List.length_set, reduceCtorEq, eq_self, Nat.zero_add, hal, h0, h5, Int.lt_irrefl, Tryz.f79]
      have hltc : (i : Int) < l.length := by omega
      obtain ⟨w, hw⟩ : ∃ w, l[i]? = some w := ⟨l[i], by simp⟩
      simp (maxSteps := 1000000) (disch := omega) only [push_cast, ↓wc_seq, ↓wc_block, ↓wc_condL, ↓wc_region, ↓wr_cons, ↓wr_nil, ↓wc_skip, wo_some, opQ_eq, seqQ_normal, blockQ_normal, iterQ_normal, pickC_true, pickC_false, Nat.reduceAdd, Nat.reduceMul, Nat.reduceLT, Nat.reduceLeDiff, Nat.reduceEqDiff, ↓reduceIte, planIds, List.contains_cons, List.contains_nil, Nat.reduceBEq, setC, List.length_set, reduceCtorEq, eq_self, Int.natCast_nonneg, Int.toNat_natCast, Nat.zero_add, hal, h0, h1, h5, hlt, hltc, hk1, hk2, hw, he, hpl, List.getElem?_map, Lid.enc, wrap_ok, Int.natCast_add, Int.natCast_one]
theorem sameIds_c {n : Nat} {S : List Ob} {d1 d2 : D} {l : List Lid} (hn : 1020 ≤ n) (hl : l.length ≤ 1000) (h1 : LS 4 Lid.enc S d1 l) (h2 : LS 4 Lid.enc S d2 l) (st : Bool) :
    callD E (dcall E n) st S 79 [d1, d2] = some (.bool true, S) := by
  obtain ⟨q, rfl⟩ : ∃ q, n = q + 1 := ⟨n - 1, by omega⟩
  cases hp : pureL [d1, d2]
  · obtain ⟨_, T, ho, rfl, rfl⟩ := sameIds_d (n := q) (by omega) hl h1 h2
    exact callD_obs rfl hp ho rfl
  · have hp' := hp
    simp only [pureL_cons, pureL_nil, Bool.and_true, Bool.and_eq_true] at hp'
    obtain ⟨_, T, ho, rfl, rfl⟩ := sameIds_d (n := q) (S := []) (by omega) hl (h1.pure hp'.1) (h2.pure hp'.2)
    exact callD_obsP rfl hp ho rfl
theorem legsD_ls (S : List Ob) (l : List Lid) : LS 4 Lid.enc S (legsD l) (Lg.sortL l) := by
  unfold legsD
  cases l with
  | nil => exact .inl ⟨rfl, sortL_nil⟩
  | cons x l => exact .inr (.inl ⟨false, rfl⟩)
theorem SAt.ext {S T : List Ob} {lab : Lab} {o k : Nat} {s : Stk} (h : SAt S lab o k s) (g : ExtS S T) : SAt T lab o k s := by
  obtain ⟨hf, m, ps, h⟩ := h
  exact ⟨fun x hx => hf x (Nat.le_trans g.len hx), m, ps, h.keep (KeepO.ext g)⟩
theorem counts_len {s : Stk} (ok : StkOk 9999 s) (id : Lid) : (s.counts id).length ≤ 1000 := by
  have := (soldV_rng ok id).2.1
  unfold soldV at this
  rwa [List.length_map] at this
/-! ### The legs are of the six -/
theorem doF_ids (s : Stk) (a : Cal) : ∀ id ∈ (doF s a).2.legs.map (·.1), id ∈ s.legs.map (·.1) ∨ ∃ j, id = idF j := by
  intro id
  unfold doF
  split
  · unfold Stk.open
    split
    · exact fun h => .inl h
    · split
      · exact fun h => .inl h
      · intro h
        dsimp only at h
        rw [List.map_append, List.mem_append] at h
        rcases h with h | h
        · exact .inl h
        · exact .inr ⟨a.leg, by simpa using h⟩
  · unfold Stk.close
    split
    · exact fun h => .inl h
    · split
      · exact fun h => .inl h
      · intro h
        dsimp only at h
        rw [updL_ids] at h
        exact .inl h
  · unfold Stk.cancel
    split
    · exact fun h => .inl h
    · split
      · exact fun h => .inl h
      · intro h
        dsimp only at h
        rw [addIds_ids] at h
        exact .inl h
  · unfold Stk.resize
    split
    · intro h
      dsimp only at h
      rw [updL_ids] at h
      exact .inl h
    · exact fun h => .inl h
  · unfold Stk.sell
    split
    · exact fun h => .inl h
    · split
      · exact fun h => .inl h
      · intro h
        dsimp only at h
        rw [addIds_ids] at h
        exact .inl h
def SixOk (s : Stk) : Prop := ∀ id ∈ s.legs.map (·.1), ∃ j, id = idF j
theorem doF_six {s : Stk} (h : SixOk s) (a : Cal) : SixOk (doF s a).2 := fun id hid => (doF_ids s a id hid).elim (h id) fun h => h
theorem playF_six : ∀ {acts : List Cal} {s : Stk}, SixOk s → SixOk (playF s acts)
  | [], s, h => h
  | a :: acts, s, h => playF_six (acts := acts) (doF_six h a)
theorem SixOk.le {B : Int} {s : Stk} (h : SixOk s) (ok : StkOk B s) : s.legs.length ≤ 6 := by
  have := ids_six ok.ids h
  rwa [List.length_map] at this
end Go.Proofs.YtajhgnefcddenaaGreatDoor.Dm
