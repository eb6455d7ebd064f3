/-
  What the accounts are found to be: the law that both programs follow; lists of violations that grow.
-/
import Derived.Test.YteffefjkcappbaaDoorMoL
import Derived.Test.YteffefjkcappbaaDoorAuM
namespace Go.Proofs.YteffefjkcappbaaDoor.Dm
open Go
set_option linter.unusedSimpArgs false

def sumC (s : Int) : List Cpn → Int
  | [] => s
  | c :: l => sumC (addV s c) l
def sumT (s : Int) : List Tkt → Int
  | [] => s
  | t :: l => sumT (sumC s t.six) l
def isU (nm : ByteArray) : Bool := nm.toList == (ByteArray.mk #[117, 110, 102, 108, 111, 119, 110]).toList
def isCash (nm : ByteArray) : Bool := nm.toList == (ByteArray.mk #[99, 97, 115, 104]).toList
def isRev (nm : ByteArray) : Bool := nm.toList == (ByteArray.mk #[114, 101, 118, 101, 110, 117, 101]).toList
def isFee (nm : ByteArray) : Bool := nm.toList == (ByteArray.mk #[102, 101, 101, 115]).toList
def isCre (nm : ByteArray) : Bool := nm.toList == (ByteArray.mk #[99, 114, 101, 100, 105, 116]).toList
def isDue (nm : ByteArray) : Bool := decide (4 ≤ nm.size) && ((nm.extract 0 4).toList == (ByteArray.mk #[100, 117, 101, 32]).toList)
def isInc (nm : ByteArray) : Bool := isRev nm || isFee nm || isCre nm || isDue nm
def sumP (t u : Int) : List Pst → Int × Int
  | [] => (t, u)
  | p :: l => sumP (IntKind.i64.wrap (t + p.amt)) (if isU p.nm = true then IntKind.i64.wrap (u + p.amt) else u) l
def accF (p : Pst) : List (Int × ByteArray) :=
  if (isCash p.nm = true ∧ p.amt < 0) ∨ (isInc p.nm = true ∧ 0 < p.amt) then [(36, p.nm)] else []
def accs (l : List Pst) : List (Int × ByteArray) := l.flatMap accF
def totS : ByteArray := ByteArray.mk #[116, 111, 116, 97, 108]
def ufS : ByteArray := ByteArray.mk #[117, 110, 102, 108, 111, 119, 110]
def acS : ByteArray := ByteArray.mk #[97, 99, 99, 111, 117, 110, 116, 115]
def headF (ts : List Tkt) (ps : List Pst) : List (Int × ByteArray) :=
  (if (sumP 0 0 ps).1 = 0 then [] else [(36, totS)]) ++ if (sumP 0 0 ps).2 = IntKind.i64.wrap (0 - sumT 0 ts) then [] else [(36, ufS)]
def monF (ts : List Tkt) (ps : List Pst) : List (Int × ByteArray) :=
  if (anyP ps || anyT ts) = true then [(11, acS)] else headF ts ps ++ accs ps
/-- A list of violations that grows. -/
def GV (S : List Ob) (d : D) (fs : List (Int × ByteArray)) : Prop :=
  (d = .nils ∧ fs = []) ∨ ∃ k, d = .os k 0 fs.length false ∧ S[k]? = some (.row 2 (fs.map encF))
theorem GV.fv {S : List Ob} {d : D} {fs : List (Int × ByteArray)} (h : GV S d fs) : FV S d fs := by
  rcases h with ⟨h1, h2⟩ | ⟨k, h1, h2⟩
  · exact .inl ⟨h1, h2⟩
  · exact .inr (.inr ⟨k, h1, h2⟩)
theorem GV.push {S : List Ob} {d : D} {fs : List (Int × ByteArray)} (h : GV S d fs) (o : Ob) : GV (S ++ [o]) d fs := by
  rcases h with ⟨h1, h2⟩ | ⟨k, h1, h2⟩
  · exact .inl ⟨h1, h2⟩
  · exact .inr ⟨k, h1, get_old h2⟩
set_option maxHeartbeats 400000 in
theorem app_fault {S : List Ob} {d : D} {fs : List (Int × ByteArray)} (h : GV S d fs) (hl : fs.length ≤ 1000) (e : Int) (s : ByteArray) :
    ∃ S', dAppend Tryd.prog S 47 47 d (.sl 2 [[.int .i64 e, .str s]] true) = some (.os S.length 0 (fs.length + 1) false, S') ∧ S'[S.length]? = some (.row 2 ((fs ++ [(e, s)]).map encF)) ∧ (∀ k o, (∀ n, d = .os k 0 n false → False) → S[k]? = some o → S'[k]? = some o) := by
  rcases h with ⟨rfl, rfl⟩ | ⟨k, rfl, hk⟩
  · refine ⟨S ++ [.row 2 [[.int .i64 e, .str s]]], ?_, get_end, fun k o _ h => get_old h⟩
    simp (maxSteps := 1000000) (disch := omega) only [push_cast, ↓wc_seq, ↓wc_block, ↓wc_scope, ↓wc_condL, ↓wc_region, ↓wr_cons, ↓wr_consgL, ↓wr_nil, ↓wo_pickL, ↓wo_callf, ↓wc_exit, ↓wc_ret, ↓wc_skip, ↓wc_wl, wo_some, wo_none, wo_ite, opQ_eq, seqQ_normal, seqQ_exit, seqQ_ret, blockQ_normal, blockQ_exit, blockQ_ret, iterQ_normal, iterQ_exit, iterQ_ret, retQ_normal, retQ_ret, retQ_exit, pickC_true, pickC_false, pickO_true, pickO_false, gstep_tt, gstep_ff, gstep_tf, gstep_ft, gstep_skip, int_bne, int_beq, decide_not, Nat.reduceAdd, Nat.reduceMul, Nat.reduceSub, Nat.reducePow, Nat.reduceLT, Nat.reduceLeDiff, Nat.reduceEqDiff, Int.reduceToNat, Int.reduceAdd, Int.reduceSub, Int.reduceNeg, Int.reduceMul, Int.reduceLT, Int.reduceLE, Int.reduceEq, le_max, ↓wo_build, ↓wo_buildSlice, evParts, ↓reduceIte, planIds, hasExt, cntFs, idxFs, clnFs, ovlFs, List.contains_cons, List.contains_nil, List.any_cons, List.any_nil, Nat.reduceBEq, setC, List.length_set, decide_eq_true_eq, decide_eq_false_iff_not, true_implies, false_implies, forall_const, reduceCtorEq, eq_self, Int.natCast_nonneg, Int.toNat_natCast, Int.ofNat_lt, D.int.injEq, Option.some.injEq, Nat.zero_add, Nat.add_zero, bne_iff_ne, bne_eq_false_iff_eq, beq_iff_eq, beq_eq_false_iff_ne, gt_iff_lt, ne_eq, not_true_eq_false, not_false_eq_true, planIds, hasExt, cntFs, idxFs, clnFs, ovlFs, List.contains_cons, List.contains_nil, List.any_cons, List.any_nil, Nat.reduceBEq, Nat.reduceMul, Nat.reduceAdd, ↓reduceIte, dAppend]
  · refine ⟨S.set k .dead ++ [.row 2 (fs.map encF ++ [[.int .i64 e, .str s]])], ?_, ?_, fun k' o hd h => ?_⟩
    · have hel : (fs.map encF).length = fs.length := by simp
      have hm : (fs.map encF).take fs.length = fs.map encF := by rw [← hel, List.take_length]
      generalize fs.map encF = es at *
      simp (maxSteps := 1000000) (disch := omega) only [push_cast, ↓wc_seq, ↓wc_block, ↓wc_scope, ↓wc_condL, ↓wc_region, ↓wr_cons, ↓wr_consgL, ↓wr_nil, ↓wo_pickL, ↓wo_callf, ↓wc_exit, ↓wc_ret, ↓wc_skip, ↓wc_wl, wo_some, wo_none, wo_ite, opQ_eq, seqQ_normal, seqQ_exit, seqQ_ret, blockQ_normal, blockQ_exit, blockQ_ret, iterQ_normal, iterQ_exit, iterQ_ret, retQ_normal, retQ_ret, retQ_exit, pickC_true, pickC_false, pickO_true, pickO_false, gstep_tt, gstep_ff, gstep_tf, gstep_ft, gstep_skip, int_bne, int_beq, decide_not, Nat.reduceAdd, Nat.reduceMul, Nat.reduceSub, Nat.reducePow, Nat.reduceLT, Nat.reduceLeDiff, Nat.reduceEqDiff, Int.reduceToNat, Int.reduceAdd, Int.reduceSub, Int.reduceNeg, Int.reduceMul, Int.reduceLT, Int.reduceLE, Int.reduceEq, le_max, ↓wo_build, ↓wo_buildSlice, evParts, ↓reduceIte, planIds, hasExt, cntFs, idxFs, clnFs, ovlFs, List.contains_cons, List.contains_nil, List.any_cons, List.any_nil, Nat.reduceBEq, setC, List.length_set, decide_eq_true_eq, decide_eq_false_iff_not, true_implies, false_implies, forall_const, reduceCtorEq, eq_self, Int.natCast_nonneg, Int.toNat_natCast, Int.ofNat_lt, D.int.injEq, Option.some.injEq, Nat.zero_add, Nat.add_zero, bne_iff_ne, bne_eq_false_iff_eq, beq_iff_eq, beq_eq_false_iff_ne, gt_iff_lt, ne_eq, not_true_eq_false, not_false_eq_true, planIds, hasExt, cntFs, idxFs, clnFs, ovlFs, List.contains_cons, List.contains_nil, List.any_cons, List.any_nil, Nat.reduceBEq, Nat.reduceMul, Nat.reduceAdd, ↓reduceIte, dAppend, hk, hel, hm, if_pos, Nat.le_refl]
    · rw [List.map_append]; exact get_end'
    · have hne : k ≠ k' := fun e => by subst e; exact hd _ rfl
      exact get_old (by rw [List.getElem?_set_ne hne]; exact h)
theorem app_ov {S' : List Ob} {k : Nat} {fs : List (Int × ByteArray)} {f : Int × ByteArray} (h : S'[k]? = some (.row 2 ((fs ++ [f]).map encF))) : GV S' (.os k 0 (fs.length + 1) false) (fs ++ [f]) :=
  .inr ⟨k, by rw [List.length_append]; rfl, h⟩
end Go.Proofs.YteffefjkcappbaaDoor.Dm
