/-
  The machine at the check of a ticket.
-/
import Derived.Test.YteffefjkcappbaaDoorIsC
import Derived.Test.YteffefjkcappbaaDoorLoc
import Derived.Test.YteffefjkcappbaaDoorWs
namespace Go.Proofs.YteffefjkcappbaaDoor.Dm
open Go
set_option linter.unusedSimpArgs false

structure Chg where
  cd : ByteArray
  am : Int
def Chg.enc (c : Chg) : List D := [.str c.cd, .int .i64 c.am]
theorem chg_pure (cs : List Chg) : pureLL (cs.map Chg.enc) = true := by
  induction cs with
  | nil => rfl
  | cons c cs ih => rw [List.map_cons, pureLL_cons, ih]; rfl
set_option maxHeartbeats 400000 in
set_option maxRecDepth 100000 in
theorem firstX_c {n : Nat} (hn : 1 ≤ n) {cs : List Chg} {x : Bool} (hc : cs.length ≤ 1000) (st : Bool) (S : List Ob) : callD E (dcall E n) st S 140 [.sl 2 (cs.map Chg.enc) x] = some (.sl 2 (cs.map Chg.enc) x, S) := by
  obtain ⟨m, rfl⟩ : ∃ m, n = m + 1 := ⟨n - 1, by omega⟩
  have hp := chg_pure cs
  have hlen : (cs.map Chg.enc).length = cs.length := by simp
  have hm : ¬ (1024 : Int) < cs.length := by omega
  have : WO (dcall E (m + 1) 140 [.sl 2 (cs.map Chg.enc) x] []) fun d T => d = .sl 2 (cs.map Chg.enc) x ∧ T = [] := by
    refine wo_dcall Tryd.func140 rfl (by decide) rfl 8 rfl (fun a hal ha => ?_)
    have h0 : a[0]? = some (.sl 2 (cs.map Chg.enc) x) := ha 0 (by simp)
    clear ha hp
    have ht : (cs.map Chg.enc).take cs.length = cs.map Chg.enc := by rw [← hlen, List.take_length]
    generalize cs.map Chg.enc = es at *
    simp (maxSteps := 1000000) (disch := omega) only [push_cast, ↓wc_seq, ↓wc_block, ↓wc_scope, ↓wc_condL, ↓wc_region, ↓wr_cons, ↓wr_consgL, ↓wr_nil, ↓wo_pickL, ↓wo_callf, ↓wc_exit, ↓wc_ret, ↓wc_skip, ↓wc_wl, wo_some, wo_none, wo_ite, opQ_eq, seqQ_normal, seqQ_exit, seqQ_ret, blockQ_normal, blockQ_exit, blockQ_ret, iterQ_normal, iterQ_exit, iterQ_ret, retQ_normal, retQ_ret, retQ_exit, pickC_true, pickC_false, pickO_true, pickO_false, gstep_tt, gstep_ff, gstep_tf, gstep_ft, gstep_skip, int_bne, int_beq, decide_not, Nat.reduceAdd, Nat.reduceMul, Nat.reduceSub, Nat.reducePow, Nat.reduceLT, Nat.reduceLeDiff, Nat.reduceEqDiff, Int.reduceToNat, Int.reduceAdd, Int.reduceSub, Int.reduceNeg, Int.reduceMul, Int.reduceLT, Int.reduceLE, Int.reduceEq, le_max, ↓wo_build, ↓wo_buildSlice, evParts, ↓reduceIte, planIds, hasExt, cntFs, idxFs, clnFs, ovlFs, List.contains_cons, List.contains_nil, List.any_cons, List.any_nil, Nat.reduceBEq, setC, List.length_set, decide_eq_true_eq, decide_eq_false_iff_not, true_implies, false_implies, forall_const, reduceCtorEq, eq_self, Int.natCast_nonneg, Int.toNat_natCast, Int.ofNat_lt, D.int.injEq, Option.some.injEq, Nat.zero_add, Nat.add_zero, bne_iff_ne, bne_eq_false_iff_eq, beq_iff_eq, beq_eq_false_iff_ne, gt_iff_lt, ne_eq, not_true_eq_false, not_false_eq_true, planIds, hasExt, cntFs, idxFs, clnFs, ovlFs, List.contains_cons, List.contains_nil, List.any_cons, List.any_nil, Nat.reduceBEq, Nat.reduceMul, Nat.reduceAdd, ↓reduceIte, hal, h0, hlen, hm, ht, Nat.le_refl, Nat.zero_le, Nat.sub_zero, Tryd.f140]
  exact callD_pure rfl (by simpa [pureL, D.pure] using hp) (eq_of_wo this) (freeze_pure (by simpa [D.pure] using hp))
noncomputable def atX (i : Nat) : ByteArray := ByteArray.mk #[116, 97, 120, 101, 115, 46] ++ decS i
noncomputable def taxesF : Nat → List Chg → List (Int × ByteArray)
  | _, [] => []
  | i, c :: l => (if (!amtB c.am) = true then [(11, atX i)] else []) ++ taxesF (i + 1) l
def taxS (s : Int) (w : Bool) : List Chg → Int × Bool
  | [] => (s, w)
  | c :: l => if amtB c.am = true then taxS (IntKind.i64.wrap (s + c.am)) w l else taxS s false l
def ifF (b : Bool) (e : Int) (s : ByteArray) : List (Int × ByteArray) := if b = true then [(e, s)] else []
noncomputable def chkF (n : Int) (l a b c : ByteArray) (cs : List Cpn) (f : Int) (ts : List Chg) (tot iss : Int) : List (Int × ByteArray) :=
  ifF (!dnR n) 2 (ByteArray.mk #[110, 117, 109, 98, 101, 114]) ++ ifF (!locR l) 5 (ByteArray.mk #[108, 111, 99, 97, 116, 111, 114]) ++
  ifF (!nameS a || (!nameS b || !codeS c 3 3)) 5 (ByteArray.mk #[112, 101, 114, 115, 111, 110]) ++
  ((if cs.length < 1 ∨ 6 < cs.length then [(4, ByteArray.mk #[99, 111, 117, 112, 111, 110, 115])] else []) ++ cpsF 0 cs) ++
  (if amtB f = true then ifF ((cpsS 0 true cs).2 && !decide ((cpsS 0 true cs).1 = f)) 36 (ByteArray.mk #[102, 97, 114, 101]) else [(11, ByteArray.mk #[102, 97, 114, 101])]) ++
  taxesF 0 ts ++
  ifF ((taxS f (amtB f) ts).2 && !decide ((taxS f (amtB f) ts).1 = tot)) 36 (ByteArray.mk #[116, 111, 116, 97, 108]) ++
  ifF (!dayB iss) 12 (ByteArray.mk #[105, 115, 115, 117, 101, 100])
theorem cpsF_len : ∀ (l : List Cpn) (i : Nat), (cpsF i l).length ≤ 3 * l.length
  | [], _ => by simp [cpsF]
  | c :: l, i => by
    have := cpsF_len l (i + 1)
    unfold cpsF cpF
    rw [List.length_append, List.length_append, List.length_append]
    split <;> split <;> split <;> simp <;> omega
def tkR (n : Int) (l a b c : ByteArray) (dc : D) (f : Int) (dt : D) (tot iss : Int) : List D := [.int .i64 n, .str l, .str a, .str b, .str c, dc, .int .i64 f, dt, .int .i64 tot, .int .i64 iss]
theorem Code3_c (s : ByteArray) (st : Bool) (S : List Ob) : callD E (dcall E 901) st S 137 [.str s, .int .i64 3, .int .i64 3] = some (.bool (codeS s 3 3), S) := by
  suffices H : WO (dcall E 901 137 [.str s, .int .i64 3, .int .i64 3] []) fun d T => d = .bool (codeS s 3 3) ∧ T = [] from callD_pure rfl rfl (eq_of_wo H) rfl
  by_cases h : s.size ≤ 100
  · exact Code_d (by omega) (by omega)
  · refine wo_dcall Tryd.func137 rfl (by decide) rfl 21 rfl (fun a hal ha => ?_)
    have h0 : a[0]? = some (.str s) := ha 0 (by simp)
    have h1 : a[1]? = some (.int .i64 3) := ha 1 (by simp)
    have h2 : a[2]? = some (.int .i64 3) := ha 2 (by simp)
    clear ha
    unfold codeS
    have c1 : (3 : Int) ≤ s.size := by omega
    have c2 : ¬ (s.size : Int) ≤ 3 := by omega
    simp (maxSteps := 1000000) (disch := omega) only [push_cast, ↓wc_seq, ↓wc_block, ↓wc_scope, ↓wc_condL, ↓wc_region, ↓wr_cons, ↓wr_consgL, ↓wr_nil, ↓wo_pickL, ↓wo_callf, ↓wc_exit, ↓wc_ret, ↓wc_skip, ↓wc_wl, wo_some, wo_none, wo_ite, opQ_eq, seqQ_normal, seqQ_exit, seqQ_ret, blockQ_normal, blockQ_exit, blockQ_ret, iterQ_normal, iterQ_exit, iterQ_ret, retQ_normal, retQ_ret, retQ_exit, pickC_true, pickC_false, pickO_true, pickO_false, gstep_tt, gstep_ff, gstep_tf, gstep_ft, gstep_skip, int_bne, int_beq, decide_not, Nat.reduceAdd, Nat.reduceMul, Nat.reduceSub, Nat.reducePow, Nat.reduceLT, Nat.reduceLeDiff, Nat.reduceEqDiff, Int.reduceToNat, Int.reduceAdd, Int.reduceSub, Int.reduceNeg, Int.reduceMul, Int.reduceLT, Int.reduceLE, Int.reduceEq, le_max, ↓wo_build, ↓wo_buildSlice, evParts, ↓reduceIte, planIds, hasExt, cntFs, idxFs, clnFs, ovlFs, List.contains_cons, List.contains_nil, List.any_cons, List.any_nil, Nat.reduceBEq, setC, List.length_set, decide_eq_true_eq, decide_eq_false_iff_not, true_implies, false_implies, forall_const, reduceCtorEq, eq_self, Int.natCast_nonneg, Int.toNat_natCast, Int.ofNat_lt, D.int.injEq, Option.some.injEq, Nat.zero_add, Nat.add_zero, bne_iff_ne, bne_eq_false_iff_eq, beq_iff_eq, beq_eq_false_iff_ne, gt_iff_lt, ne_eq, not_true_eq_false, not_false_eq_true, planIds, hasExt, cntFs, idxFs, clnFs, ovlFs, List.contains_cons, List.contains_nil, List.any_cons, List.any_nil, Nat.reduceBEq, Nat.reduceMul, Nat.reduceAdd, ↓reduceIte, hal, h0, h1, h2, c1, c2, ge_iff_le, decide_true, decide_false, Bool.true_and, Bool.false_and, Tryd.f137]
theorem Name_c {s : ByteArray} (hs : s.size ≤ 200) (st : Bool) (S : List Ob) : callD E (dcall E 901) st S 136 [.str s] = some (.bool (nameS s), S) :=
  callD_pure rfl rfl (eq_of_wo (Name_d (by omega) (by omega))) rfl
theorem coupons_nil {bd o : Nat} {S : List Ob} {fs : List (Int × ByteArray)} (h : CellB bd S o fs) (hl : fs.length ≤ 100) :
    WO (dcall E 901 138 [.loc o 0 0, .nils] S) fun d T => d = .tup [.int .i64 0, .bool true] ∧ CellB bd T o (fs ++ [(4, ByteArray.mk #[99, 111, 117, 112, 111, 110, 115])]) ∧ Keep2 bd o S T := by
  obtain ⟨T1, a1, c1, k1, -⟩ := fadd_c (n := 900) (by omega) (b := true) (e := 4) (s := ByteArray.mk #[99, 111, 117, 112, 111, 110, 115]) h (by omega)
  have fc : ∀ st S, callD E (dcall E 900) st S 193 [.nils] = some (.nils, S) := fun st S => callD_pure (d := .nils) (T := []) rfl rfl (by kernel_rfl) rfl
  refine wo_dcall Tryd.func138 rfl (by decide) rfl 65 rfl (fun a hal ha => ?_)
  have h0 : a[0]? = some (.loc o 0 0) := ha 0 (by simp)
  have h1 : a[1]? = some .nils := ha 1 (by simp)
  clear ha
  simp (maxSteps := 1000000) (disch := omega) only [push_cast, ↓wc_seq, ↓wc_block, ↓wc_scope, ↓wc_condL, ↓wc_region, ↓wr_cons, ↓wr_consgL, ↓wr_nil, ↓wo_pickL, ↓wo_callf, ↓wc_exit, ↓wc_ret, ↓wc_skip, ↓wc_wl, wo_some, wo_none, wo_ite, opQ_eq, seqQ_normal, seqQ_exit, seqQ_ret, blockQ_normal, blockQ_exit, blockQ_ret, iterQ_normal, iterQ_exit, iterQ_ret, retQ_normal, retQ_ret, retQ_exit, pickC_true, pickC_false, pickO_true, pickO_false, gstep_tt, gstep_ff, gstep_tf, gstep_ft, gstep_skip, int_bne, int_beq, decide_not, Nat.reduceAdd, Nat.reduceMul, Nat.reduceSub, Nat.reducePow, Nat.reduceLT, Nat.reduceLeDiff, Nat.reduceEqDiff, Int.reduceToNat, Int.reduceAdd, Int.reduceSub, Int.reduceNeg, Int.reduceMul, Int.reduceLT, Int.reduceLE, Int.reduceEq, le_max, ↓wo_build, ↓wo_buildSlice, evParts, ↓reduceIte, planIds, hasExt, cntFs, idxFs, clnFs, ovlFs, List.contains_cons, List.contains_nil, List.any_cons, List.any_nil, Nat.reduceBEq, setC, List.length_set, decide_eq_true_eq, decide_eq_false_iff_not, true_implies, false_implies, forall_const, reduceCtorEq, eq_self, Int.natCast_nonneg, Int.toNat_natCast, Int.ofNat_lt, D.int.injEq, Option.some.injEq, Nat.zero_add, Nat.add_zero, bne_iff_ne, bne_eq_false_iff_eq, beq_iff_eq, beq_eq_false_iff_ne, gt_iff_lt, ne_eq, not_true_eq_false, not_false_eq_true, planIds, hasExt, cntFs, idxFs, clnFs, ovlFs, List.contains_cons, List.contains_nil, List.any_cons, List.any_nil, Nat.reduceBEq, Nat.reduceMul, Nat.reduceAdd, ↓reduceIte, hal, h0, h1, a1, fc, Tryd.f138]
  refine wl_loop (fun _ a T => a.length = 65 ∧ a[6]? = some (.int .i64 0) ∧ a[7]? = some (.bool true) ∧ a[22]? = some .nils ∧ a[23]? = some (.int .i64 0) ∧ a[24]? = some (.int .i64 0) ∧ T = T1) 0 ?_ (by omega) ?_
  · simp (maxSteps := 1000000) (disch := omega) only [push_cast, ↓wc_seq, ↓wc_block, ↓wc_scope, ↓wc_condL, ↓wc_region, ↓wr_cons, ↓wr_consgL, ↓wr_nil, ↓wo_pickL, ↓wo_callf, ↓wc_exit, ↓wc_ret, ↓wc_skip, ↓wc_wl, wo_some, wo_none, wo_ite, opQ_eq, seqQ_normal, seqQ_exit, seqQ_ret, blockQ_normal, blockQ_exit, blockQ_ret, iterQ_normal, iterQ_exit, iterQ_ret, retQ_normal, retQ_ret, retQ_exit, pickC_true, pickC_false, pickO_true, pickO_false, gstep_tt, gstep_ff, gstep_tf, gstep_ft, gstep_skip, int_bne, int_beq, decide_not, Nat.reduceAdd, Nat.reduceMul, Nat.reduceSub, Nat.reducePow, Nat.reduceLT, Nat.reduceLeDiff, Nat.reduceEqDiff, Int.reduceToNat, Int.reduceAdd, Int.reduceSub, Int.reduceNeg, Int.reduceMul, Int.reduceLT, Int.reduceLE, Int.reduceEq, le_max, ↓wo_build, ↓wo_buildSlice, evParts, ↓reduceIte, planIds, hasExt, cntFs, idxFs, clnFs, ovlFs, List.contains_cons, List.contains_nil, List.any_cons, List.any_nil, Nat.reduceBEq, setC, List.length_set, decide_eq_true_eq, decide_eq_false_iff_not, true_implies, false_implies, forall_const, reduceCtorEq, eq_self, Int.natCast_nonneg, Int.toNat_natCast, Int.ofNat_lt, D.int.injEq, Option.some.injEq, Nat.zero_add, Nat.add_zero, bne_iff_ne, bne_eq_false_iff_eq, beq_iff_eq, beq_eq_false_iff_ne, gt_iff_lt, ne_eq, not_true_eq_false, not_false_eq_true, planIds, hasExt, cntFs, idxFs, clnFs, ovlFs, List.contains_cons, List.contains_nil, List.any_cons, List.any_nil, Nat.reduceBEq, Nat.reduceMul, Nat.reduceAdd, ↓reduceIte, hal, h0, h1]
  · rintro _ a T _ ⟨hal, h6, h7, h22, h23, h24, rfl⟩
    simp (maxSteps := 1000000) (disch := omega) only [push_cast, ↓wc_seq, ↓wc_block, ↓wc_scope, ↓wc_condL, ↓wc_region, ↓wr_cons, ↓wr_consgL, ↓wr_nil, ↓wo_pickL, ↓wo_callf, ↓wc_exit, ↓wc_ret, ↓wc_skip, ↓wc_wl, wo_some, wo_none, wo_ite, opQ_eq, seqQ_normal, seqQ_exit, seqQ_ret, blockQ_normal, blockQ_exit, blockQ_ret, iterQ_normal, iterQ_exit, iterQ_ret, retQ_normal, retQ_ret, retQ_exit, pickC_true, pickC_false, pickO_true, pickO_false, gstep_tt, gstep_ff, gstep_tf, gstep_ft, gstep_skip, int_bne, int_beq, decide_not, Nat.reduceAdd, Nat.reduceMul, Nat.reduceSub, Nat.reducePow, Nat.reduceLT, Nat.reduceLeDiff, Nat.reduceEqDiff, Int.reduceToNat, Int.reduceAdd, Int.reduceSub, Int.reduceNeg, Int.reduceMul, Int.reduceLT, Int.reduceLE, Int.reduceEq, le_max, ↓wo_build, ↓wo_buildSlice, evParts, ↓reduceIte, planIds, hasExt, cntFs, idxFs, clnFs, ovlFs, List.contains_cons, List.contains_nil, List.any_cons, List.any_nil, Nat.reduceBEq, setC, List.length_set, decide_eq_true_eq, decide_eq_false_iff_not, true_implies, false_implies, forall_const, reduceCtorEq, eq_self, Int.natCast_nonneg, Int.toNat_natCast, Int.ofNat_lt, D.int.injEq, Option.some.injEq, Nat.zero_add, Nat.add_zero, bne_iff_ne, bne_eq_false_iff_eq, beq_iff_eq, beq_eq_false_iff_ne, gt_iff_lt, ne_eq, not_true_eq_false, not_false_eq_true, planIds, hasExt, cntFs, idxFs, clnFs, ovlFs, List.contains_cons, List.contains_nil, List.any_cons, List.any_nil, Nat.reduceBEq, Nat.reduceMul, Nat.reduceAdd, ↓reduceIte, hal, h6, h7, h22, h23, h24, Int.lt_irrefl, Tryd.f138]
    exact ⟨c1, k1⟩
theorem itoa1_all : (List.range 32).all (fun n => sameS (strOf (dcall E 901 96 [.int .i64 n] [])) (some (decS n))) = true := by kernel_rfl
theorem itoa1_c {i : Nat} (hi : i < 32) (st : Bool) (S : List Ob) : callD E (dcall E 901) st S 96 [.int .i64 i] = some (.str (decS i), S) := by
  obtain ⟨s, h1, h2⟩ := sameS_spec (List.all_eq_true.1 itoa1_all i (List.mem_range.2 hi))
  obtain ⟨T, e⟩ := strOf_spec h1
  rw [Option.some.inj h2]
  exact callD_pure rfl rfl e rfl
/-- All that lay there lies there still. -/
def ExtS (S T : List Ob) : Prop := ∀ (k : Nat) (x : Ob), S[k]? = some x → T[k]? = some x
theorem ExtS.push {S T : List Ob} (h : ExtS S T) (x : Ob) : ExtS S (T ++ [x]) := fun k y hy => get_old (h k y hy)
theorem ExtS.refl {S : List Ob} : ExtS S S := fun _ _ h => h
theorem ExtS.trans {S T U : List Ob} (h : ExtS S T) (g : ExtS T U) : ExtS S U := fun k y hy => g k y (h k y hy)
theorem ExtS.keep {S T U : List Ob} {p o : Nat} (h : ExtS S T) (hp : S.length = p) (g : Keep2 p o T U) : ExtS S U := fun k y hy => g.2 k y (by have := (List.getElem?_eq_some_iff.1 hy).1; omega) (h k y hy)
theorem taxesF_len : ∀ (l : List Chg) (i : Nat), (taxesF i l).length ≤ l.length
  | [], _ => by simp [taxesF]
  | c :: l, i => by
    have := taxesF_len l (i + 1)
    unfold taxesF
    rw [List.length_append]
    split <;> simp <;> omega
theorem ifF_eq (b : Bool) (e : Int) (s : ByteArray) : (if b = true then [(e, s)] else []) = ifF b e s := rfl
theorem ifF_len (b : Bool) (e : Int) (s : ByteArray) : (ifF b e s).length ≤ 1 := by unfold ifF; split <;> simp
set_option maxHeartbeats 8000000 in
set_option maxRecDepth 100000 in
theorem Check_d {n f tot iss : Int} {l pa b c : ByteArray} {cs : List Cpn} {ts : List Chg} {dc dt : D} {S : List Ob} (hcs : cs.length ≤ 20) (hts : ts.length ≤ 20) (ha1 : pa.size ≤ 200) (hb1 : b.size ≤ 200)
    (hdc : (dc = .nils ∧ cs = []) ∨ ∃ x, dc = .sl 11 (cs.map Cpn.enc) x) (hdt : (dt = .nils ∧ ts = []) ∨ ∃ x, dt = .sl 2 (ts.map Chg.enc) x) :
    WO (dcall E 902 64 [.agg (tkR n l pa b c dc f dt tot iss)] S) fun d T => GV T d (chkF n l pa b c cs f ts tot iss) ∧ ExtS S T ∧ ∀ k n, d = .os k 0 n false → S.length ≤ k := by
  refine wo_dcall Tryd.func64 rfl (by decide) rfl 111 rfl (fun a0 hal ha => ?_)
  have h0 : a0[0]? = some (.agg (tkR n l pa b c dc f dt tot iss)) := ha 0 (by simp)
  clear ha
  have dn := dn_right (n := 901) (by omega) n
  have lr := loc_right (n := 901) (by omega) l
  have na := fun st S => Name_c ha1 st S
  have nb := fun st S => Name_c hb1 st S
  have nc := Code3_c c
  have af := amount_c (n := 901) (by omega) f
  have dy := day_c (n := 901) (by omega) iss
  unfold chkF
  -- the ticket, the list of violations
  refine wc_scut (fun a1 T => a1.length = 111 ∧ a1[1]? = some (.loc S.length 0 0) ∧ T = S ++ [.row 10 [tkR n l pa b c dc f dt tot iss]]) ?_ ?_
  · simp (maxSteps := 1000000) (disch := omega) only [push_cast, ↓wc_seq, ↓wc_block, ↓wc_scope, ↓wc_condL, ↓wc_region, ↓wr_cons, ↓wr_consgL, ↓wr_nil, ↓wo_pickL, ↓wo_callf, ↓wc_exit, ↓wc_ret, ↓wc_skip, ↓wc_wl, wo_some, wo_none, wo_ite, opQ_eq, seqQ_normal, seqQ_exit, seqQ_ret, blockQ_normal, blockQ_exit, blockQ_ret, iterQ_normal, iterQ_exit, iterQ_ret, retQ_normal, retQ_ret, retQ_exit, pickC_true, pickC_false, pickO_true, pickO_false, gstep_tt, gstep_ff, gstep_tf, gstep_ft, gstep_skip, int_bne, int_beq, decide_not, Nat.reduceAdd, Nat.reduceMul, Nat.reduceSub, Nat.reducePow, Nat.reduceLT, Nat.reduceLeDiff, Nat.reduceEqDiff, Int.reduceToNat, Int.reduceAdd, Int.reduceSub, Int.reduceNeg, Int.reduceMul, Int.reduceLT, Int.reduceLE, Int.reduceEq, le_max, ↓wo_build, ↓wo_buildSlice, evParts, ↓reduceIte, planIds, hasExt, cntFs, idxFs, clnFs, ovlFs, List.contains_cons, List.contains_nil, List.any_cons, List.any_nil, Nat.reduceBEq, setC, List.length_set, decide_eq_true_eq, decide_eq_false_iff_not, true_implies, false_implies, forall_const, reduceCtorEq, eq_self, Int.natCast_nonneg, Int.toNat_natCast, Int.ofNat_lt, D.int.injEq, Option.some.injEq, Nat.zero_add, Nat.add_zero, bne_iff_ne, bne_eq_false_iff_eq, beq_iff_eq, beq_eq_false_iff_ne, gt_iff_lt, ne_eq, not_true_eq_false, not_false_eq_true, planIds, hasExt, cntFs, idxFs, clnFs, ovlFs, List.contains_cons, List.contains_nil, List.any_cons, List.any_nil, Nat.reduceBEq, Nat.reduceMul, Nat.reduceAdd, ↓reduceIte, hal, h0, tkR]
    rcases hdc with ⟨rfl, -⟩ | ⟨x, rfl⟩ <;> rcases hdt with ⟨rfl, -⟩ | ⟨y, rfl⟩ <;> rfl
  clear hal h0 a0
  rintro a1 T ⟨hal, h1, rfl⟩
  refine wc_scut (fun a2 T => a2.length = 111 ∧ a2[1]? = some (.loc S.length 0 0) ∧ a2[3]? = some (.loc (S.length + 1) 0 0) ∧ T[S.length]? = some (.row 10 [tkR n l pa b c dc f dt tot iss]) ∧ ExtS S T ∧ CellB S.length T (S.length + 1) []) ?_ ?_
  · simp (maxSteps := 1000000) (disch := omega) only [push_cast, ↓wc_seq, ↓wc_block, ↓wc_scope, ↓wc_condL, ↓wc_region, ↓wr_cons, ↓wr_consgL, ↓wr_nil, ↓wo_pickL, ↓wo_callf, ↓wc_exit, ↓wc_ret, ↓wc_skip, ↓wc_wl, wo_some, wo_none, wo_ite, opQ_eq, seqQ_normal, seqQ_exit, seqQ_ret, blockQ_normal, blockQ_exit, blockQ_ret, iterQ_normal, iterQ_exit, iterQ_ret, retQ_normal, retQ_ret, retQ_exit, pickC_true, pickC_false, pickO_true, pickO_false, gstep_tt, gstep_ff, gstep_tf, gstep_ft, gstep_skip, int_bne, int_beq, decide_not, Nat.reduceAdd, Nat.reduceMul, Nat.reduceSub, Nat.reducePow, Nat.reduceLT, Nat.reduceLeDiff, Nat.reduceEqDiff, Int.reduceToNat, Int.reduceAdd, Int.reduceSub, Int.reduceNeg, Int.reduceMul, Int.reduceLT, Int.reduceLE, Int.reduceEq, le_max, ↓wo_build, ↓wo_buildSlice, evParts, ↓reduceIte, planIds, hasExt, cntFs, idxFs, clnFs, ovlFs, List.contains_cons, List.contains_nil, List.any_cons, List.any_nil, Nat.reduceBEq, setC, List.length_set, decide_eq_true_eq, decide_eq_false_iff_not, true_implies, false_implies, forall_const, reduceCtorEq, eq_self, Int.natCast_nonneg, Int.toNat_natCast, Int.ofNat_lt, D.int.injEq, Option.some.injEq, Nat.zero_add, Nat.add_zero, bne_iff_ne, bne_eq_false_iff_eq, beq_iff_eq, beq_eq_false_iff_ne, gt_iff_lt, ne_eq, not_true_eq_false, not_false_eq_true, planIds, hasExt, cntFs, idxFs, clnFs, ovlFs, List.contains_cons, List.contains_nil, List.any_cons, List.any_nil, Nat.reduceBEq, Nat.reduceMul, Nat.reduceAdd, ↓reduceIte, hal, h1, List.length_append, List.length_cons, List.length_nil]
    refine ⟨?_, ?_, ?_⟩
    · rw [get_old get_end]
    · exact fun k x h => get_old (get_old h)
    · refine ⟨by omega, .nils, ?_, .inl ⟨rfl, rfl⟩, fun k n e => by cases e⟩
      have : S.length + 1 = (S ++ [Ob.row 10 [tkR n l pa b c dc f dt tot iss]]).length := by simp
      rw [this]
      exact get_end
  clear hal h1 a1
  generalize hp : S.length = p
  have hpo : p ≠ p + 1 := by omega
  generalize p + 1 = o at *
  rintro a2 T ⟨hal, h1, h3, hr, hx, hc⟩
  -- the number
  refine wc_scut (fun a2 T => a2.length = 111 ∧ a2[1]? = some (.loc p 0 0) ∧ a2[3]? = some (.loc o 0 0) ∧ T[p]? = some (.row 10 [tkR n l pa b c dc f dt tot iss]) ∧ ExtS S T ∧ CellB p T o (ifF (!dnR n) 2 (ByteArray.mk #[110, 117, 109, 98, 101, 114]))) ?_ ?_
  · obtain ⟨T1, a1, c1, k1, -⟩ := fadd_c (n := 901) (by omega) (b := !dnR n) (e := 2) (s := ByteArray.mk #[110, 117, 109, 98, 101, 114]) hc (by simp)
    have r1 := k1.1 p 10 _ (by decide) hpo hr
    have x1 := hx.keep hp k1
    rw [tkR] at hr
    simp (maxSteps := 1000000) (disch := omega) only [push_cast, ↓wc_seq, ↓wc_block, ↓wc_scope, ↓wc_condL, ↓wc_region, ↓wr_cons, ↓wr_consgL, ↓wr_nil, ↓wo_pickL, ↓wo_callf, ↓wc_exit, ↓wc_ret, ↓wc_skip, ↓wc_wl, wo_some, wo_none, wo_ite, opQ_eq, seqQ_normal, seqQ_exit, seqQ_ret, blockQ_normal, blockQ_exit, blockQ_ret, iterQ_normal, iterQ_exit, iterQ_ret, retQ_normal, retQ_ret, retQ_exit, pickC_true, pickC_false, pickO_true, pickO_false, gstep_tt, gstep_ff, gstep_tf, gstep_ft, gstep_skip, int_bne, int_beq, decide_not, Nat.reduceAdd, Nat.reduceMul, Nat.reduceSub, Nat.reducePow, Nat.reduceLT, Nat.reduceLeDiff, Nat.reduceEqDiff, Int.reduceToNat, Int.reduceAdd, Int.reduceSub, Int.reduceNeg, Int.reduceMul, Int.reduceLT, Int.reduceLE, Int.reduceEq, le_max, ↓wo_build, ↓wo_buildSlice, evParts, ↓reduceIte, planIds, hasExt, cntFs, idxFs, clnFs, ovlFs, List.contains_cons, List.contains_nil, List.any_cons, List.any_nil, Nat.reduceBEq, setC, List.length_set, decide_eq_true_eq, decide_eq_false_iff_not, true_implies, false_implies, forall_const, reduceCtorEq, eq_self, Int.natCast_nonneg, Int.toNat_natCast, Int.ofNat_lt, D.int.injEq, Option.some.injEq, Nat.zero_add, Nat.add_zero, bne_iff_ne, bne_eq_false_iff_eq, beq_iff_eq, beq_eq_false_iff_ne, gt_iff_lt, ne_eq, not_true_eq_false, not_false_eq_true, planIds, hasExt, cntFs, idxFs, clnFs, ovlFs, List.contains_cons, List.contains_nil, List.any_cons, List.any_nil, Nat.reduceBEq, Nat.reduceMul, Nat.reduceAdd, ↓reduceIte, hal, h1, h3, hr, dn, a1, dUn]
    exact ⟨r1, x1, c1⟩
  generalize hg1 : ifF (!dnR n) 2 (ByteArray.mk #[110, 117, 109, 98, 101, 114]) = g1
  have l1 : g1.length ≤ 1 := hg1 ▸ ifF_len _ _ _
  clear hal h1 h3 hr hx hc hg1
  rintro a2 T ⟨hal, h1, h3, hr, hx, hc⟩
  -- the locator
  refine wc_scut (fun a2 T => a2.length = 111 ∧ a2[1]? = some (.loc p 0 0) ∧ a2[3]? = some (.loc o 0 0) ∧ T[p]? = some (.row 10 [tkR n l pa b c dc f dt tot iss]) ∧ ExtS S T ∧ CellB p T o (g1 ++ ifF (!locR l) 5 (ByteArray.mk #[108, 111, 99, 97, 116, 111, 114]))) ?_ ?_
  · obtain ⟨T1, a1, c1, k1, -⟩ := fadd_c (n := 901) (by omega) (b := !locR l) (e := 5) (s := ByteArray.mk #[108, 111, 99, 97, 116, 111, 114]) hc (by omega)
    have r1 := k1.1 p 10 _ (by decide) hpo hr
    have x1 := hx.keep hp k1
    rw [tkR] at hr
    simp (maxSteps := 1000000) (disch := omega) only [push_cast, ↓wc_seq, ↓wc_block, ↓wc_scope, ↓wc_condL, ↓wc_region, ↓wr_cons, ↓wr_consgL, ↓wr_nil, ↓wo_pickL, ↓wo_callf, ↓wc_exit, ↓wc_ret, ↓wc_skip, ↓wc_wl, wo_some, wo_none, wo_ite, opQ_eq, seqQ_normal, seqQ_exit, seqQ_ret, blockQ_normal, blockQ_exit, blockQ_ret, iterQ_normal, iterQ_exit, iterQ_ret, retQ_normal, retQ_ret, retQ_exit, pickC_true, pickC_false, pickO_true, pickO_false, gstep_tt, gstep_ff, gstep_tf, gstep_ft, gstep_skip, int_bne, int_beq, decide_not, Nat.reduceAdd, Nat.reduceMul, Nat.reduceSub, Nat.reducePow, Nat.reduceLT, Nat.reduceLeDiff, Nat.reduceEqDiff, Int.reduceToNat, Int.reduceAdd, Int.reduceSub, Int.reduceNeg, Int.reduceMul, Int.reduceLT, Int.reduceLE, Int.reduceEq, le_max, ↓wo_build, ↓wo_buildSlice, evParts, ↓reduceIte, planIds, hasExt, cntFs, idxFs, clnFs, ovlFs, List.contains_cons, List.contains_nil, List.any_cons, List.any_nil, Nat.reduceBEq, setC, List.length_set, decide_eq_true_eq, decide_eq_false_iff_not, true_implies, false_implies, forall_const, reduceCtorEq, eq_self, Int.natCast_nonneg, Int.toNat_natCast, Int.ofNat_lt, D.int.injEq, Option.some.injEq, Nat.zero_add, Nat.add_zero, bne_iff_ne, bne_eq_false_iff_eq, beq_iff_eq, beq_eq_false_iff_ne, gt_iff_lt, ne_eq, not_true_eq_false, not_false_eq_true, planIds, hasExt, cntFs, idxFs, clnFs, ovlFs, List.contains_cons, List.contains_nil, List.any_cons, List.any_nil, Nat.reduceBEq, Nat.reduceMul, Nat.reduceAdd, ↓reduceIte, hal, h1, h3, hr, lr, a1, dUn]
    exact ⟨r1, x1, c1⟩
  generalize hg2 : g1 ++ ifF (!locR l) 5 (ByteArray.mk #[108, 111, 99, 97, 116, 111, 114]) = g2
  have l2 : g2.length ≤ 2 := by
    have := ifF_len (!locR l) 5 (ByteArray.mk #[108, 111, 99, 97, 116, 111, 114])
    rw [← hg2, List.length_append]; omega
  clear hal h1 h3 hr hx hc hg2 l1 g1
  rintro a2 T ⟨hal, h1, h3, hr, hx, hc⟩
  -- the person
  refine wc_scut (fun a2 T => a2.length = 111 ∧ a2[1]? = some (.loc p 0 0) ∧ a2[3]? = some (.loc o 0 0) ∧ T[p]? = some (.row 10 [tkR n l pa b c dc f dt tot iss]) ∧ ExtS S T ∧ CellB p T o (g2 ++ ifF (!nameS pa || (!nameS b || !codeS c 3 3)) 5 (ByteArray.mk #[112, 101, 114, 115, 111, 110]))) ?_ ?_
  · obtain ⟨T1, a1, c1, k1, -⟩ := fadd_c (n := 901) (by omega) (b := !nameS pa || (!nameS b || !codeS c 3 3)) (e := 5) (s := ByteArray.mk #[112, 101, 114, 115, 111, 110]) hc (by omega)
    have r1 := k1.1 p 10 _ (by decide) hpo hr
    have x1 := hx.keep hp k1
    rw [tkR] at hr
    rw [ifF_eq] at c1
    cases hna : nameS pa
    · rw [hna] at na a1 c1
      simp only [Bool.not_false, Bool.true_or] at a1 c1 ⊢
      simp (maxSteps := 1000000) (disch := omega) only [push_cast, ↓wc_seq, ↓wc_block, ↓wc_scope, ↓wc_condL, ↓wc_region, ↓wr_cons, ↓wr_consgL, ↓wr_nil, ↓wo_pickL, ↓wo_callf, ↓wc_exit, ↓wc_ret, ↓wc_skip, ↓wc_wl, wo_some, wo_none, wo_ite, opQ_eq, seqQ_normal, seqQ_exit, seqQ_ret, blockQ_normal, blockQ_exit, blockQ_ret, iterQ_normal, iterQ_exit, iterQ_ret, retQ_normal, retQ_ret, retQ_exit, pickC_true, pickC_false, pickO_true, pickO_false, gstep_tt, gstep_ff, gstep_tf, gstep_ft, gstep_skip, int_bne, int_beq, decide_not, Nat.reduceAdd, Nat.reduceMul, Nat.reduceSub, Nat.reducePow, Nat.reduceLT, Nat.reduceLeDiff, Nat.reduceEqDiff, Int.reduceToNat, Int.reduceAdd, Int.reduceSub, Int.reduceNeg, Int.reduceMul, Int.reduceLT, Int.reduceLE, Int.reduceEq, le_max, ↓wo_build, ↓wo_buildSlice, evParts, ↓reduceIte, planIds, hasExt, cntFs, idxFs, clnFs, ovlFs, List.contains_cons, List.contains_nil, List.any_cons, List.any_nil, Nat.reduceBEq, setC, List.length_set, decide_eq_true_eq, decide_eq_false_iff_not, true_implies, false_implies, forall_const, reduceCtorEq, eq_self, Int.natCast_nonneg, Int.toNat_natCast, Int.ofNat_lt, D.int.injEq, Option.some.injEq, Nat.zero_add, Nat.add_zero, bne_iff_ne, bne_eq_false_iff_eq, beq_iff_eq, beq_eq_false_iff_ne, gt_iff_lt, ne_eq, not_true_eq_false, not_false_eq_true, planIds, hasExt, cntFs, idxFs, clnFs, ovlFs, List.contains_cons, List.contains_nil, List.any_cons, List.any_nil, Nat.reduceBEq, Nat.reduceMul, Nat.reduceAdd, ↓reduceIte, hal, h1, h3, hr, na, a1, dUn, Bool.not_false]
      exact ⟨r1, x1, c1⟩
    · rw [hna] at na a1 c1
      cases hnb : nameS b
      · rw [hnb] at nb a1 c1
        simp only [Bool.not_false, Bool.not_true, Bool.true_or, Bool.false_or] at a1 c1 ⊢
        simp (maxSteps := 1000000) (disch := omega) only [push_cast, ↓wc_seq, ↓wc_block, ↓wc_scope, ↓wc_condL, ↓wc_region, ↓wr_cons, ↓wr_consgL, ↓wr_nil, ↓wo_pickL, ↓wo_callf, ↓wc_exit, ↓wc_ret, ↓wc_skip, ↓wc_wl, wo_some, wo_none, wo_ite, opQ_eq, seqQ_normal, seqQ_exit, seqQ_ret, blockQ_normal, blockQ_exit, blockQ_ret, iterQ_normal, iterQ_exit, iterQ_ret, retQ_normal, retQ_ret, retQ_exit, pickC_true, pickC_false, pickO_true, pickO_false, gstep_tt, gstep_ff, gstep_tf, gstep_ft, gstep_skip, int_bne, int_beq, decide_not, Nat.reduceAdd, Nat.reduceMul, Nat.reduceSub, Nat.reducePow, Nat.reduceLT, Nat.reduceLeDiff, Nat.reduceEqDiff, Int.reduceToNat, Int.reduceAdd, Int.reduceSub, Int.reduceNeg, Int.reduceMul, Int.reduceLT, Int.reduceLE, Int.reduceEq, le_max, ↓wo_build, ↓wo_buildSlice, evParts, ↓reduceIte, planIds, hasExt, cntFs, idxFs, clnFs, ovlFs, List.contains_cons, List.contains_nil, List.any_cons, List.any_nil, Nat.reduceBEq, setC, List.length_set, decide_eq_true_eq, decide_eq_false_iff_not, true_implies, false_implies, forall_const, reduceCtorEq, eq_self, Int.natCast_nonneg, Int.toNat_natCast, Int.ofNat_lt, D.int.injEq, Option.some.injEq, Nat.zero_add, Nat.add_zero, bne_iff_ne, bne_eq_false_iff_eq, beq_iff_eq, beq_eq_false_iff_ne, gt_iff_lt, ne_eq, not_true_eq_false, not_false_eq_true, planIds, hasExt, cntFs, idxFs, clnFs, ovlFs, List.contains_cons, List.contains_nil, List.any_cons, List.any_nil, Nat.reduceBEq, Nat.reduceMul, Nat.reduceAdd, ↓reduceIte, hal, h1, h3, hr, na, nb, a1, dUn, Bool.not_false, Bool.not_true]
        exact ⟨r1, x1, c1⟩
      · rw [hnb] at nb a1 c1
        simp only [Bool.not_false, Bool.not_true, Bool.true_or, Bool.false_or] at a1 c1 ⊢
        simp (maxSteps := 1000000) (disch := omega) only [push_cast, ↓wc_seq, ↓wc_block, ↓wc_scope, ↓wc_condL, ↓wc_region, ↓wr_cons, ↓wr_consgL, ↓wr_nil, ↓wo_pickL, ↓wo_callf, ↓wc_exit, ↓wc_ret, ↓wc_skip, ↓wc_wl, wo_some, wo_none, wo_ite, opQ_eq, seqQ_normal, seqQ_exit, seqQ_ret, blockQ_normal, blockQ_exit, blockQ_ret, iterQ_normal, iterQ_exit, iterQ_ret, retQ_normal, retQ_ret, retQ_exit, pickC_true, pickC_false, pickO_true, pickO_false, gstep_tt, gstep_ff, gstep_tf, gstep_ft, gstep_skip, int_bne, int_beq, decide_not, Nat.reduceAdd, Nat.reduceMul, Nat.reduceSub, Nat.reducePow, Nat.reduceLT, Nat.reduceLeDiff, Nat.reduceEqDiff, Int.reduceToNat, Int.reduceAdd, Int.reduceSub, Int.reduceNeg, Int.reduceMul, Int.reduceLT, Int.reduceLE, Int.reduceEq, le_max, ↓wo_build, ↓wo_buildSlice, evParts, ↓reduceIte, planIds, hasExt, cntFs, idxFs, clnFs, ovlFs, List.contains_cons, List.contains_nil, List.any_cons, List.any_nil, Nat.reduceBEq, setC, List.length_set, decide_eq_true_eq, decide_eq_false_iff_not, true_implies, false_implies, forall_const, reduceCtorEq, eq_self, Int.natCast_nonneg, Int.toNat_natCast, Int.ofNat_lt, D.int.injEq, Option.some.injEq, Nat.zero_add, Nat.add_zero, bne_iff_ne, bne_eq_false_iff_eq, beq_iff_eq, beq_eq_false_iff_ne, gt_iff_lt, ne_eq, not_true_eq_false, not_false_eq_true, planIds, hasExt, cntFs, idxFs, clnFs, ovlFs, List.contains_cons, List.contains_nil, List.any_cons, List.any_nil, Nat.reduceBEq, Nat.reduceMul, Nat.reduceAdd, ↓reduceIte, hal, h1, h3, hr, na, nb, nc, a1, dUn, Bool.not_false, Bool.not_true]
        exact ⟨r1, x1, c1⟩
  generalize hg3 : g2 ++ ifF (!nameS pa || (!nameS b || !codeS c 3 3)) 5 (ByteArray.mk #[112, 101, 114, 115, 111, 110]) = g3
  have l3 : g3.length ≤ 3 := by
    have := ifF_len (!nameS pa || (!nameS b || !codeS c 3 3)) 5 (ByteArray.mk #[112, 101, 114, 115, 111, 110])
    rw [← hg3, List.length_append]; omega
  clear hal h1 h3 hr hx hc hg3 l2 g2
  rintro a2 T ⟨hal, h1, h3, hr, hx, hc⟩
  -- the coupons
  refine wc_scut (fun a2 T => a2.length = 111 ∧ a2[1]? = some (.loc p 0 0) ∧ a2[3]? = some (.loc o 0 0) ∧ a2[4]? = some (.int .i64 (cpsS 0 true cs).1) ∧ a2[5]? = some (.bool (cpsS 0 true cs).2) ∧ T[p]? = some (.row 10 [tkR n l pa b c dc f dt tot iss]) ∧ ExtS S T ∧ CellB p T o (g3 ++ ((if cs.length < 1 ∨ 6 < cs.length then [(4, ByteArray.mk #[99, 111, 117, 112, 111, 110, 115])] else []) ++ cpsF 0 cs))) ?_ ?_
  · obtain ⟨T1, a1, c1, k1⟩ : ∃ T1, callD E (dcall E 901) false T 138 [.loc o 0 0, dc] = some (.tup [.int .i64 (cpsS 0 true cs).1, .bool (cpsS 0 true cs).2], T1) ∧ CellB p T1 o (g3 ++ ((if cs.length < 1 ∨ 6 < cs.length then [(4, ByteArray.mk #[99, 111, 117, 112, 111, 110, 115])] else []) ++ cpsF 0 cs)) ∧ Keep2 p o T T1 := by
      rcases hdc with ⟨rfl, rfl⟩ | ⟨x, rfl⟩
      · obtain ⟨_, T1, e, rfl, c1, k1⟩ := coupons_nil hc (by omega)
        exact ⟨T1, (callD_own rfl (by simp [pureL, D.pure])).trans e, by simpa [cpsF] using c1, k1⟩
      · obtain ⟨_, T1, e, rfl, c1, k1⟩ := coupons_d (x := x) hc (by omega) hcs
        exact ⟨T1, (callD_own rfl (by simp [pureL, D.pure])).trans e, by rw [← List.append_assoc]; exact c1, k1⟩
    have r1 := k1.1 p 10 _ (by decide) hpo hr
    have x1 := hx.keep hp k1
    rw [tkR] at hr
    simp (maxSteps := 1000000) (disch := omega) only [push_cast, ↓wc_seq, ↓wc_block, ↓wc_scope, ↓wc_condL, ↓wc_region, ↓wr_cons, ↓wr_consgL, ↓wr_nil, ↓wo_pickL, ↓wo_callf, ↓wc_exit, ↓wc_ret, ↓wc_skip, ↓wc_wl, wo_some, wo_none, wo_ite, opQ_eq, seqQ_normal, seqQ_exit, seqQ_ret, blockQ_normal, blockQ_exit, blockQ_ret, iterQ_normal, iterQ_exit, iterQ_ret, retQ_normal, retQ_ret, retQ_exit, pickC_true, pickC_false, pickO_true, pickO_false, gstep_tt, gstep_ff, gstep_tf, gstep_ft, gstep_skip, int_bne, int_beq, decide_not, Nat.reduceAdd, Nat.reduceMul, Nat.reduceSub, Nat.reducePow, Nat.reduceLT, Nat.reduceLeDiff, Nat.reduceEqDiff, Int.reduceToNat, Int.reduceAdd, Int.reduceSub, Int.reduceNeg, Int.reduceMul, Int.reduceLT, Int.reduceLE, Int.reduceEq, le_max, ↓wo_build, ↓wo_buildSlice, evParts, ↓reduceIte, planIds, hasExt, cntFs, idxFs, clnFs, ovlFs, List.contains_cons, List.contains_nil, List.any_cons, List.any_nil, Nat.reduceBEq, setC, List.length_set, decide_eq_true_eq, decide_eq_false_iff_not, true_implies, false_implies, forall_const, reduceCtorEq, eq_self, Int.natCast_nonneg, Int.toNat_natCast, Int.ofNat_lt, D.int.injEq, Option.some.injEq, Nat.zero_add, Nat.add_zero, bne_iff_ne, bne_eq_false_iff_eq, beq_iff_eq, beq_eq_false_iff_ne, gt_iff_lt, ne_eq, not_true_eq_false, not_false_eq_true, planIds, hasExt, cntFs, idxFs, clnFs, ovlFs, List.contains_cons, List.contains_nil, List.any_cons, List.any_nil, Nat.reduceBEq, Nat.reduceMul, Nat.reduceAdd, ↓reduceIte, hal, h1, h3, hr, a1]
    exact ⟨r1, x1, c1⟩
  generalize hq : cpsS 0 true cs = q
  obtain ⟨v, w⟩ := q
  generalize hg4 : g3 ++ ((if cs.length < 1 ∨ 6 < cs.length then [(4, ByteArray.mk #[99, 111, 117, 112, 111, 110, 115])] else []) ++ cpsF 0 cs) = g4
  have l4 : g4.length ≤ 64 := by
    have := cpsF_len cs 0
    rw [← hg4, List.length_append, List.length_append]
    split <;> simp only [List.length_cons, List.length_nil] <;> omega
  clear hal h1 h3 hr hx hc hg4 l3 g3
  rintro a2 T ⟨hal, h1, h3, h4, h5, hr, hx, hc⟩
  refine wc_scut (fun a2 T => a2.length = 111 ∧ a2[1]? = some (.loc p 0 0) ∧ a2[3]? = some (.loc o 0 0) ∧ a2[4]? = some (.int .i64 v) ∧ a2[5]? = some (.bool w) ∧ a2[6]? = some (.bool true) ∧ T[p]? = some (.row 10 [tkR n l pa b c dc f dt tot iss]) ∧ ExtS S T ∧ CellB p T o g4) ?_ ?_
  · simp (maxSteps := 1000000) (disch := omega) only [push_cast, ↓wc_seq, ↓wc_block, ↓wc_scope, ↓wc_condL, ↓wc_region, ↓wr_cons, ↓wr_consgL, ↓wr_nil, ↓wo_pickL, ↓wo_callf, ↓wc_exit, ↓wc_ret, ↓wc_skip, ↓wc_wl, wo_some, wo_none, wo_ite, opQ_eq, seqQ_normal, seqQ_exit, seqQ_ret, blockQ_normal, blockQ_exit, blockQ_ret, iterQ_normal, iterQ_exit, iterQ_ret, retQ_normal, retQ_ret, retQ_exit, pickC_true, pickC_false, pickO_true, pickO_false, gstep_tt, gstep_ff, gstep_tf, gstep_ft, gstep_skip, int_bne, int_beq, decide_not, Nat.reduceAdd, Nat.reduceMul, Nat.reduceSub, Nat.reducePow, Nat.reduceLT, Nat.reduceLeDiff, Nat.reduceEqDiff, Int.reduceToNat, Int.reduceAdd, Int.reduceSub, Int.reduceNeg, Int.reduceMul, Int.reduceLT, Int.reduceLE, Int.reduceEq, le_max, ↓wo_build, ↓wo_buildSlice, evParts, ↓reduceIte, planIds, hasExt, cntFs, idxFs, clnFs, ovlFs, List.contains_cons, List.contains_nil, List.any_cons, List.any_nil, Nat.reduceBEq, setC, List.length_set, decide_eq_true_eq, decide_eq_false_iff_not, true_implies, false_implies, forall_const, reduceCtorEq, eq_self, Int.natCast_nonneg, Int.toNat_natCast, Int.ofNat_lt, D.int.injEq, Option.some.injEq, Nat.zero_add, Nat.add_zero, bne_iff_ne, bne_eq_false_iff_eq, beq_iff_eq, beq_eq_false_iff_ne, gt_iff_lt, ne_eq, not_true_eq_false, not_false_eq_true, planIds, hasExt, cntFs, idxFs, clnFs, ovlFs, List.contains_cons, List.contains_nil, List.any_cons, List.any_nil, Nat.reduceBEq, Nat.reduceMul, Nat.reduceAdd, ↓reduceIte, hal, h1, h3, h4, h5]
    exact ⟨hr, hx, hc⟩
  clear hal h1 h3 h4 h5 hr hx hc
  rintro a2 T ⟨hal, h1, h3, h4, h5, h6, hr, hx, hc⟩
  -- the fare
  refine wc_scut (fun a2 T => a2.length = 111 ∧ a2[1]? = some (.loc p 0 0) ∧ a2[3]? = some (.loc o 0 0) ∧ a2[6]? = some (.bool (amtB f)) ∧ T[p]? = some (.row 10 [tkR n l pa b c dc f dt tot iss]) ∧ ExtS S T ∧ CellB p T o (g4 ++ if amtB f = true then ifF (w && !decide (v = f)) 36 (ByteArray.mk #[102, 97, 114, 101]) else [(11, ByteArray.mk #[102, 97, 114, 101])])) ?_ ?_
  · obtain ⟨T1, a1, c1, k1, e1⟩ := fadd_c (n := 901) (by omega) (b := !amtB f) (e := 11) (s := ByteArray.mk #[102, 97, 114, 101]) hc (by omega)
    have r1 := k1.1 p 10 _ (by decide) hpo hr
    have x1 := hx.keep hp k1
    cases hA : amtB f
    · rw [hA] at af a1 c1
      simp only [Bool.not_false] at a1 c1
      rw [tkR] at hr
      simp (maxSteps := 1000000) (disch := omega) only [push_cast, ↓wc_seq, ↓wc_block, ↓wc_scope, ↓wc_condL, ↓wc_region, ↓wr_cons, ↓wr_consgL, ↓wr_nil, ↓wo_pickL, ↓wo_callf, ↓wc_exit, ↓wc_ret, ↓wc_skip, ↓wc_wl, wo_some, wo_none, wo_ite, opQ_eq, seqQ_normal, seqQ_exit, seqQ_ret, blockQ_normal, blockQ_exit, blockQ_ret, iterQ_normal, iterQ_exit, iterQ_ret, retQ_normal, retQ_ret, retQ_exit, pickC_true, pickC_false, pickO_true, pickO_false, gstep_tt, gstep_ff, gstep_tf, gstep_ft, gstep_skip, int_bne, int_beq, decide_not, Nat.reduceAdd, Nat.reduceMul, Nat.reduceSub, Nat.reducePow, Nat.reduceLT, Nat.reduceLeDiff, Nat.reduceEqDiff, Int.reduceToNat, Int.reduceAdd, Int.reduceSub, Int.reduceNeg, Int.reduceMul, Int.reduceLT, Int.reduceLE, Int.reduceEq, le_max, ↓wo_build, ↓wo_buildSlice, evParts, ↓reduceIte, planIds, hasExt, cntFs, idxFs, clnFs, ovlFs, List.contains_cons, List.contains_nil, List.any_cons, List.any_nil, Nat.reduceBEq, setC, List.length_set, decide_eq_true_eq, decide_eq_false_iff_not, true_implies, false_implies, forall_const, reduceCtorEq, eq_self, Int.natCast_nonneg, Int.toNat_natCast, Int.ofNat_lt, D.int.injEq, Option.some.injEq, Nat.zero_add, Nat.add_zero, bne_iff_ne, bne_eq_false_iff_eq, beq_iff_eq, beq_eq_false_iff_ne, gt_iff_lt, ne_eq, not_true_eq_false, not_false_eq_true, planIds, hasExt, cntFs, idxFs, clnFs, ovlFs, List.contains_cons, List.contains_nil, List.any_cons, List.any_nil, Nat.reduceBEq, Nat.reduceMul, Nat.reduceAdd, ↓reduceIte, hal, h1, h3, hr, af, a1, dUn, Bool.not_false]
      exact ⟨r1, x1, c1⟩
    · rw [hA] at af a1 e1
      simp only [Bool.not_true] at a1 e1
      cases e1 trivial
      obtain ⟨T2, a2', c2, k2, -⟩ := fadd_c (n := 901) (by omega) (b := w && !decide (v = f)) (e := 36) (s := ByteArray.mk #[102, 97, 114, 101]) hc (by omega)
      have r2 := k2.1 p 10 _ (by decide) hpo hr
      have x2 := hx.keep hp k2
      rw [tkR] at hr
      rw [ifF_eq] at c2
      cases w
      · rw [Bool.false_and] at a2' c2
        simp (maxSteps := 1000000) (disch := omega) only [push_cast, ↓wc_seq, ↓wc_block, ↓wc_scope, ↓wc_condL, ↓wc_region, ↓wr_cons, ↓wr_consgL, ↓wr_nil, ↓wo_pickL, ↓wo_callf, ↓wc_exit, ↓wc_ret, ↓wc_skip, ↓wc_wl, wo_some, wo_none, wo_ite, opQ_eq, seqQ_normal, seqQ_exit, seqQ_ret, blockQ_normal, blockQ_exit, blockQ_ret, iterQ_normal, iterQ_exit, iterQ_ret, retQ_normal, retQ_ret, retQ_exit, pickC_true, pickC_false, pickO_true, pickO_false, gstep_tt, gstep_ff, gstep_tf, gstep_ft, gstep_skip, int_bne, int_beq, decide_not, Nat.reduceAdd, Nat.reduceMul, Nat.reduceSub, Nat.reducePow, Nat.reduceLT, Nat.reduceLeDiff, Nat.reduceEqDiff, Int.reduceToNat, Int.reduceAdd, Int.reduceSub, Int.reduceNeg, Int.reduceMul, Int.reduceLT, Int.reduceLE, Int.reduceEq, le_max, ↓wo_build, ↓wo_buildSlice, evParts, ↓reduceIte, planIds, hasExt, cntFs, idxFs, clnFs, ovlFs, List.contains_cons, List.contains_nil, List.any_cons, List.any_nil, Nat.reduceBEq, setC, List.length_set, decide_eq_true_eq, decide_eq_false_iff_not, true_implies, false_implies, forall_const, reduceCtorEq, eq_self, Int.natCast_nonneg, Int.toNat_natCast, Int.ofNat_lt, D.int.injEq, Option.some.injEq, Nat.zero_add, Nat.add_zero, bne_iff_ne, bne_eq_false_iff_eq, beq_iff_eq, beq_eq_false_iff_ne, gt_iff_lt, ne_eq, not_true_eq_false, not_false_eq_true, planIds, hasExt, cntFs, idxFs, clnFs, ovlFs, List.contains_cons, List.contains_nil, List.any_cons, List.any_nil, Nat.reduceBEq, Nat.reduceMul, Nat.reduceAdd, ↓reduceIte, hal, h1, h3, h4, h5, h6, hr, af, a1, a2', dUn, Bool.not_true, Bool.false_and]
        exact ⟨r2, x2, c2⟩
      · rw [Bool.true_and] at a2' c2
        simp (maxSteps := 1000000) (disch := omega) only [push_cast, ↓wc_seq, ↓wc_block, ↓wc_scope, ↓wc_condL, ↓wc_region, ↓wr_cons, ↓wr_consgL, ↓wr_nil, ↓wo_pickL, ↓wo_callf, ↓wc_exit, ↓wc_ret, ↓wc_skip, ↓wc_wl, wo_some, wo_none, wo_ite, opQ_eq, seqQ_normal, seqQ_exit, seqQ_ret, blockQ_normal, blockQ_exit, blockQ_ret, iterQ_normal, iterQ_exit, iterQ_ret, retQ_normal, retQ_ret, retQ_exit, pickC_true, pickC_false, pickO_true, pickO_false, gstep_tt, gstep_ff, gstep_tf, gstep_ft, gstep_skip, int_bne, int_beq, decide_not, Nat.reduceAdd, Nat.reduceMul, Nat.reduceSub, Nat.reducePow, Nat.reduceLT, Nat.reduceLeDiff, Nat.reduceEqDiff, Int.reduceToNat, Int.reduceAdd, Int.reduceSub, Int.reduceNeg, Int.reduceMul, Int.reduceLT, Int.reduceLE, Int.reduceEq, le_max, ↓wo_build, ↓wo_buildSlice, evParts, ↓reduceIte, planIds, hasExt, cntFs, idxFs, clnFs, ovlFs, List.contains_cons, List.contains_nil, List.any_cons, List.any_nil, Nat.reduceBEq, setC, List.length_set, decide_eq_true_eq, decide_eq_false_iff_not, true_implies, false_implies, forall_const, reduceCtorEq, eq_self, Int.natCast_nonneg, Int.toNat_natCast, Int.ofNat_lt, D.int.injEq, Option.some.injEq, Nat.zero_add, Nat.add_zero, bne_iff_ne, bne_eq_false_iff_eq, beq_iff_eq, beq_eq_false_iff_ne, gt_iff_lt, ne_eq, not_true_eq_false, not_false_eq_true, planIds, hasExt, cntFs, idxFs, clnFs, ovlFs, List.contains_cons, List.contains_nil, List.any_cons, List.any_nil, Nat.reduceBEq, Nat.reduceMul, Nat.reduceAdd, ↓reduceIte, hal, h1, h3, h4, h5, h6, hr, af, a1, a2', dUn, Bool.not_true, Bool.true_and]
        exact ⟨r2, x2, c2⟩
  generalize hg5 : (g4 ++ if amtB f = true then ifF (w && !decide (v = f)) 36 (ByteArray.mk #[102, 97, 114, 101]) else [(11, ByteArray.mk #[102, 97, 114, 101])]) = g5
  have l5 : g5.length ≤ 65 := by
    have := ifF_len (w && !decide (v = f)) 36 (ByteArray.mk #[102, 97, 114, 101])
    rw [← hg5, List.length_append]
    split <;> (try simp only [List.length_cons, List.length_nil]) <;> omega
  clear hal h1 h3 h4 h5 h6 hr hx hc
  rintro a2 T ⟨hal, h1, h3, h6, hr, hx, hc⟩
  refine wc_scut (fun a2 T => a2.length = 111 ∧ a2[1]? = some (.loc p 0 0) ∧ a2[3]? = some (.loc o 0 0) ∧ a2[6]? = some (.bool (amtB f)) ∧ a2[7]? = some (.int .i64 f) ∧ T[p]? = some (.row 10 [tkR n l pa b c dc f dt tot iss]) ∧ ExtS S T ∧ CellB p T o g5) ?_ ?_
  · have hr' := hr
    rw [tkR] at hr'
    simp (maxSteps := 1000000) (disch := omega) only [push_cast, ↓wc_seq, ↓wc_block, ↓wc_scope, ↓wc_condL, ↓wc_region, ↓wr_cons, ↓wr_consgL, ↓wr_nil, ↓wo_pickL, ↓wo_callf, ↓wc_exit, ↓wc_ret, ↓wc_skip, ↓wc_wl, wo_some, wo_none, wo_ite, opQ_eq, seqQ_normal, seqQ_exit, seqQ_ret, blockQ_normal, blockQ_exit, blockQ_ret, iterQ_normal, iterQ_exit, iterQ_ret, retQ_normal, retQ_ret, retQ_exit, pickC_true, pickC_false, pickO_true, pickO_false, gstep_tt, gstep_ff, gstep_tf, gstep_ft, gstep_skip, int_bne, int_beq, decide_not, Nat.reduceAdd, Nat.reduceMul, Nat.reduceSub, Nat.reducePow, Nat.reduceLT, Nat.reduceLeDiff, Nat.reduceEqDiff, Int.reduceToNat, Int.reduceAdd, Int.reduceSub, Int.reduceNeg, Int.reduceMul, Int.reduceLT, Int.reduceLE, Int.reduceEq, le_max, ↓wo_build, ↓wo_buildSlice, evParts, ↓reduceIte, planIds, hasExt, cntFs, idxFs, clnFs, ovlFs, List.contains_cons, List.contains_nil, List.any_cons, List.any_nil, Nat.reduceBEq, setC, List.length_set, decide_eq_true_eq, decide_eq_false_iff_not, true_implies, false_implies, forall_const, reduceCtorEq, eq_self, Int.natCast_nonneg, Int.toNat_natCast, Int.ofNat_lt, D.int.injEq, Option.some.injEq, Nat.zero_add, Nat.add_zero, bne_iff_ne, bne_eq_false_iff_eq, beq_iff_eq, beq_eq_false_iff_ne, gt_iff_lt, ne_eq, not_true_eq_false, not_false_eq_true, planIds, hasExt, cntFs, idxFs, clnFs, ovlFs, List.contains_cons, List.contains_nil, List.any_cons, List.any_nil, Nat.reduceBEq, Nat.reduceMul, Nat.reduceAdd, ↓reduceIte, hal, h1, h3, h6, hr']
    exact ⟨rfl, hx, hc⟩
  clear hal h1 h3 h6 hr hx hc
  rintro a2 T ⟨hal, h1, h3, h6, h7, hr, hx, hc⟩
  -- the taxes
  refine wc_scut (fun a2 T => a2.length = 111 ∧ a2[1]? = some (.loc p 0 0) ∧ a2[3]? = some (.loc o 0 0) ∧ a2[6]? = some (.bool (taxS f (amtB f) ts).2) ∧ a2[7]? = some (.int .i64 (taxS f (amtB f) ts).1) ∧ T[p]? = some (.row 10 [tkR n l pa b c dc f dt tot iss]) ∧ ExtS S T ∧ CellB p T o (g5 ++ taxesF 0 ts)) ?_ ?_
  · rcases hdt with ⟨rfl, rfl⟩ | ⟨x, rfl⟩
    · have fc : ∀ st S, callD E (dcall E 901) st S 140 [.nils] = some (.nils, S) := fun st S => callD_pure (d := .nils) (T := []) rfl rfl (by kernel_rfl) rfl
      have hr' := hr
      rw [tkR] at hr'
      simp (maxSteps := 1000000) (disch := omega) only [push_cast, ↓wc_seq, ↓wc_block, ↓wc_scope, ↓wc_condL, ↓wc_region, ↓wr_cons, ↓wr_consgL, ↓wr_nil, ↓wo_pickL, ↓wo_callf, ↓wc_exit, ↓wc_ret, ↓wc_skip, ↓wc_wl, wo_some, wo_none, wo_ite, opQ_eq, seqQ_normal, seqQ_exit, seqQ_ret, blockQ_normal, blockQ_exit, blockQ_ret, iterQ_normal, iterQ_exit, iterQ_ret, retQ_normal, retQ_ret, retQ_exit, pickC_true, pickC_false, pickO_true, pickO_false, gstep_tt, gstep_ff, gstep_tf, gstep_ft, gstep_skip, int_bne, int_beq, decide_not, Nat.reduceAdd, Nat.reduceMul, Nat.reduceSub, Nat.reducePow, Nat.reduceLT, Nat.reduceLeDiff, Nat.reduceEqDiff, Int.reduceToNat, Int.reduceAdd, Int.reduceSub, Int.reduceNeg, Int.reduceMul, Int.reduceLT, Int.reduceLE, Int.reduceEq, le_max, ↓wo_build, ↓wo_buildSlice, evParts, ↓reduceIte, planIds, hasExt, cntFs, idxFs, clnFs, ovlFs, List.contains_cons, List.contains_nil, List.any_cons, List.any_nil, Nat.reduceBEq, setC, List.length_set, decide_eq_true_eq, decide_eq_false_iff_not, true_implies, false_implies, forall_const, reduceCtorEq, eq_self, Int.natCast_nonneg, Int.toNat_natCast, Int.ofNat_lt, D.int.injEq, Option.some.injEq, Nat.zero_add, Nat.add_zero, bne_iff_ne, bne_eq_false_iff_eq, beq_iff_eq, beq_eq_false_iff_ne, gt_iff_lt, ne_eq, not_true_eq_false, not_false_eq_true, planIds, hasExt, cntFs, idxFs, clnFs, ovlFs, List.contains_cons, List.contains_nil, List.any_cons, List.any_nil, Nat.reduceBEq, Nat.reduceMul, Nat.reduceAdd, ↓reduceIte, hal, h1, h3, h6, h7, hr', fc]
      refine wl_loop (fun _ a T' => a.length = 111 ∧ a[1]? = some (.loc p 0 0) ∧ a[3]? = some (.loc o 0 0) ∧ a[6]? = some (.bool (amtB f)) ∧ a[7]? = some (.int .i64 f) ∧ a[72]? = some (.int .i64 0) ∧ a[73]? = some (.int .i64 0) ∧ T' = T) 0 ?_ (by omega) ?_
      · simp (maxSteps := 1000000) (disch := omega) only [push_cast, ↓wc_seq, ↓wc_block, ↓wc_scope, ↓wc_condL, ↓wc_region, ↓wr_cons, ↓wr_consgL, ↓wr_nil, ↓wo_pickL, ↓wo_callf, ↓wc_exit, ↓wc_ret, ↓wc_skip, ↓wc_wl, wo_some, wo_none, wo_ite, opQ_eq, seqQ_normal, seqQ_exit, seqQ_ret, blockQ_normal, blockQ_exit, blockQ_ret, iterQ_normal, iterQ_exit, iterQ_ret, retQ_normal, retQ_ret, retQ_exit, pickC_true, pickC_false, pickO_true, pickO_false, gstep_tt, gstep_ff, gstep_tf, gstep_ft, gstep_skip, int_bne, int_beq, decide_not, Nat.reduceAdd, Nat.reduceMul, Nat.reduceSub, Nat.reducePow, Nat.reduceLT, Nat.reduceLeDiff, Nat.reduceEqDiff, Int.reduceToNat, Int.reduceAdd, Int.reduceSub, Int.reduceNeg, Int.reduceMul, Int.reduceLT, Int.reduceLE, Int.reduceEq, le_max, ↓wo_build, ↓wo_buildSlice, evParts, ↓reduceIte, planIds, hasExt, cntFs, idxFs, clnFs, ovlFs, List.contains_cons, List.contains_nil, List.any_cons, List.any_nil, Nat.reduceBEq, setC, List.length_set, decide_eq_true_eq, decide_eq_false_iff_not, true_implies, false_implies, forall_const, reduceCtorEq, eq_self, Int.natCast_nonneg, Int.toNat_natCast, Int.ofNat_lt, D.int.injEq, Option.some.injEq, Nat.zero_add, Nat.add_zero, bne_iff_ne, bne_eq_false_iff_eq, beq_iff_eq, beq_eq_false_iff_ne, gt_iff_lt, ne_eq, not_true_eq_false, not_false_eq_true, planIds, hasExt, cntFs, idxFs, clnFs, ovlFs, List.contains_cons, List.contains_nil, List.any_cons, List.any_nil, Nat.reduceBEq, Nat.reduceMul, Nat.reduceAdd, ↓reduceIte, hal, h1, h3, h6, h7]
      · clear hal h1 h3 h6 h7
        rintro _ a T' _ ⟨hal, h1, h3, h6, h7, h72, h73, rfl⟩
        simp (maxSteps := 1000000) (disch := omega) only [push_cast, ↓wc_seq, ↓wc_block, ↓wc_scope, ↓wc_condL, ↓wc_region, ↓wr_cons, ↓wr_consgL, ↓wr_nil, ↓wo_pickL, ↓wo_callf, ↓wc_exit, ↓wc_ret, ↓wc_skip, ↓wc_wl, wo_some, wo_none, wo_ite, opQ_eq, seqQ_normal, seqQ_exit, seqQ_ret, blockQ_normal, blockQ_exit, blockQ_ret, iterQ_normal, iterQ_exit, iterQ_ret, retQ_normal, retQ_ret, retQ_exit, pickC_true, pickC_false, pickO_true, pickO_false, gstep_tt, gstep_ff, gstep_tf, gstep_ft, gstep_skip, int_bne, int_beq, decide_not, Nat.reduceAdd, Nat.reduceMul, Nat.reduceSub, Nat.reducePow, Nat.reduceLT, Nat.reduceLeDiff, Nat.reduceEqDiff, Int.reduceToNat, Int.reduceAdd, Int.reduceSub, Int.reduceNeg, Int.reduceMul, Int.reduceLT, Int.reduceLE, Int.reduceEq, le_max, ↓wo_build, ↓wo_buildSlice, evParts, ↓reduceIte, planIds, hasExt, cntFs, idxFs, clnFs, ovlFs, List.contains_cons, List.contains_nil, List.any_cons, List.any_nil, Nat.reduceBEq, setC, List.length_set, decide_eq_true_eq, decide_eq_false_iff_not, true_implies, false_implies, forall_const, reduceCtorEq, eq_self, Int.natCast_nonneg, Int.toNat_natCast, Int.ofNat_lt, D.int.injEq, Option.some.injEq, Nat.zero_add, Nat.add_zero, bne_iff_ne, bne_eq_false_iff_eq, beq_iff_eq, beq_eq_false_iff_ne, gt_iff_lt, ne_eq, not_true_eq_false, not_false_eq_true, planIds, hasExt, cntFs, idxFs, clnFs, ovlFs, List.contains_cons, List.contains_nil, List.any_cons, List.any_nil, Nat.reduceBEq, Nat.reduceMul, Nat.reduceAdd, ↓reduceIte, hal, h1, h3, h6, h7, h72, h73, Int.lt_irrefl, taxS]
        exact ⟨hr, hx, by rw [show taxesF 0 [] = [] from rfl, List.append_nil]; exact hc⟩
    · have fc := firstX_c (n := 901) (by omega) (cs := ts) (x := x) (by omega)
      have hr' := hr
      rw [tkR] at hr'
      simp (maxSteps := 1000000) (disch := omega) only [push_cast, ↓wc_seq, ↓wc_block, ↓wc_scope, ↓wc_condL, ↓wc_region, ↓wr_cons, ↓wr_consgL, ↓wr_nil, ↓wo_pickL, ↓wo_callf, ↓wc_exit, ↓wc_ret, ↓wc_skip, ↓wc_wl, wo_some, wo_none, wo_ite, opQ_eq, seqQ_normal, seqQ_exit, seqQ_ret, blockQ_normal, blockQ_exit, blockQ_ret, iterQ_normal, iterQ_exit, iterQ_ret, retQ_normal, retQ_ret, retQ_exit, pickC_true, pickC_false, pickO_true, pickO_false, gstep_tt, gstep_ff, gstep_tf, gstep_ft, gstep_skip, int_bne, int_beq, decide_not, Nat.reduceAdd, Nat.reduceMul, Nat.reduceSub, Nat.reducePow, Nat.reduceLT, Nat.reduceLeDiff, Nat.reduceEqDiff, Int.reduceToNat, Int.reduceAdd, Int.reduceSub, Int.reduceNeg, Int.reduceMul, Int.reduceLT, Int.reduceLE, Int.reduceEq, le_max, ↓wo_build, ↓wo_buildSlice, evParts, ↓reduceIte, planIds, hasExt, cntFs, idxFs, clnFs, ovlFs, List.contains_cons, List.contains_nil, List.any_cons, List.any_nil, Nat.reduceBEq, setC, List.length_set, decide_eq_true_eq, decide_eq_false_iff_not, true_implies, false_implies, forall_const, reduceCtorEq, eq_self, Int.natCast_nonneg, Int.toNat_natCast, Int.ofNat_lt, D.int.injEq, Option.some.injEq, Nat.zero_add, Nat.add_zero, bne_iff_ne, bne_eq_false_iff_eq, beq_iff_eq, beq_eq_false_iff_ne, gt_iff_lt, ne_eq, not_true_eq_false, not_false_eq_true, planIds, hasExt, cntFs, idxFs, clnFs, ovlFs, List.contains_cons, List.contains_nil, List.any_cons, List.any_nil, Nat.reduceBEq, Nat.reduceMul, Nat.reduceAdd, ↓reduceIte, hal, h1, h3, h6, h7, hr', fc, List.length_map]
      refine wl_loop (fun i a T => a.length = 111 ∧ a[1]? = some (.loc p 0 0) ∧ a[3]? = some (.loc o 0 0) ∧ a[71]? = some (.sl 2 (ts.map Chg.enc) x) ∧ a[72]? = some (.int .i64 ts.length) ∧ a[73]? = some (.int .i64 i) ∧ T[p]? = some (.row 10 [tkR n l pa b c dc f (.sl 2 (ts.map Chg.enc) x) tot iss]) ∧ ExtS S T ∧ ∃ s w gs, a[6]? = some (.bool w) ∧ a[7]? = some (.int .i64 s) ∧ taxS f (amtB f) ts = taxS s w (ts.drop i) ∧ CellB p T o gs ∧ g5 ++ taxesF 0 ts = gs ++ taxesF i (ts.drop i) ∧ gs.length ≤ 65 + i) ts.length ?_ (by omega) ?_
      · simp (maxSteps := 1000000) (disch := omega) only [push_cast, ↓wc_seq, ↓wc_block, ↓wc_scope, ↓wc_condL, ↓wc_region, ↓wr_cons, ↓wr_consgL, ↓wr_nil, ↓wo_pickL, ↓wo_callf, ↓wc_exit, ↓wc_ret, ↓wc_skip, ↓wc_wl, wo_some, wo_none, wo_ite, opQ_eq, seqQ_normal, seqQ_exit, seqQ_ret, blockQ_normal, blockQ_exit, blockQ_ret, iterQ_normal, iterQ_exit, iterQ_ret, retQ_normal, retQ_ret, retQ_exit, pickC_true, pickC_false, pickO_true, pickO_false, gstep_tt, gstep_ff, gstep_tf, gstep_ft, gstep_skip, int_bne, int_beq, decide_not, Nat.reduceAdd, Nat.reduceMul, Nat.reduceSub, Nat.reducePow, Nat.reduceLT, Nat.reduceLeDiff, Nat.reduceEqDiff, Int.reduceToNat, Int.reduceAdd, Int.reduceSub, Int.reduceNeg, Int.reduceMul, Int.reduceLT, Int.reduceLE, Int.reduceEq, le_max, ↓wo_build, ↓wo_buildSlice, evParts, ↓reduceIte, planIds, hasExt, cntFs, idxFs, clnFs, ovlFs, List.contains_cons, List.contains_nil, List.any_cons, List.any_nil, Nat.reduceBEq, setC, List.length_set, decide_eq_true_eq, decide_eq_false_iff_not, true_implies, false_implies, forall_const, reduceCtorEq, eq_self, Int.natCast_nonneg, Int.toNat_natCast, Int.ofNat_lt, D.int.injEq, Option.some.injEq, Nat.zero_add, Nat.add_zero, bne_iff_ne, bne_eq_false_iff_eq, beq_iff_eq, beq_eq_false_iff_ne, gt_iff_lt, ne_eq, not_true_eq_false, not_false_eq_true, planIds, hasExt, cntFs, idxFs, clnFs, ovlFs, List.contains_cons, List.contains_nil, List.any_cons, List.any_nil, Nat.reduceBEq, Nat.reduceMul, Nat.reduceAdd, ↓reduceIte, hal, h1, h3, h6, h7, List.length_map, Int.natCast_zero]
        exact ⟨hr, hx, _, _, _, rfl, rfl, rfl, hc, rfl, by omega⟩
      · clear hal h1 h3 h6 h7 hr hr' hx hc
        rintro i a T hi ⟨hal, h1, h3, h71, h72, h73, hr, hx, s, w, gs, h6, h7, hv, hc, hg, hgl⟩
        rcases Nat.lt_or_eq_of_le hi with hlt | rfl
        · obtain ⟨q, hq'⟩ : ∃ q, ts[i]? = some q := ⟨ts[i], by simp [hlt]⟩
          rw [drop_at hq', taxS] at hv
          rw [drop_at hq', taxesF] at hg
          obtain ⟨T2, a2, c2, k2, e2⟩ := fadd_c (n := 901) (by omega) (b := !amtB q.am) (e := 11) (s := ByteArray.mk #[116, 97, 120, 101, 115, 46] ++ decS i) (hc.push (.row 2 [q.enc])) (by omega)
          have r2 := k2.1 p 10 _ (by decide) hpo (get_old hr)
          have x2 := (hx.push (.row 2 [q.enc])).keep hp k2
          have am := amount_c (n := 901) (by omega) q.am
          have it := fun st S => itoa1_c (i := i) (by omega) st S
          have hds : (decS i).size ≤ 20 := by simpa using List.all_eq_true.1 dec_size i (List.mem_range.2 (by omega))
          have hmx : ¬ IntKind.i64.max < ((ByteArray.mk #[116, 97, 120, 101, 115, 46]).size : Int) + ((decS i).size : Int) := by
            show ¬ (9223372036854775807 : Int) < ((6 : Nat) : Int) + ((decS i).size : Int)
            omega
          unfold atX at hg
          generalize decS i = ds at *
          simp only [Chg.enc] at a2 e2 c2
          cases hA : amtB q.am
          · rw [hA] at am a2 c2 hv hg
            simp only [Bool.not_false, Bool.false_eq_true, if_false, if_true] at a2 c2 hv hg
            simp (maxSteps := 1000000) (disch := omega) only [push_cast, ↓wc_seq, ↓wc_block, ↓wc_scope, ↓wc_condL, ↓wc_region, ↓wr_cons, ↓wr_consgL, ↓wr_nil, ↓wo_pickL, ↓wo_callf, ↓wc_exit, ↓wc_ret, ↓wc_skip, ↓wc_wl, wo_some, wo_none, wo_ite, opQ_eq, seqQ_normal, seqQ_exit, seqQ_ret, blockQ_normal, blockQ_exit, blockQ_ret, iterQ_normal, iterQ_exit, iterQ_ret, retQ_normal, retQ_ret, retQ_exit, pickC_true, pickC_false, pickO_true, pickO_false, gstep_tt, gstep_ff, gstep_tf, gstep_ft, gstep_skip, int_bne, int_beq, decide_not, Nat.reduceAdd, Nat.reduceMul, Nat.reduceSub, Nat.reducePow, Nat.reduceLT, Nat.reduceLeDiff, Nat.reduceEqDiff, Int.reduceToNat, Int.reduceAdd, Int.reduceSub, Int.reduceNeg, Int.reduceMul, Int.reduceLT, Int.reduceLE, Int.reduceEq, le_max, ↓wo_build, ↓wo_buildSlice, evParts, ↓reduceIte, planIds, hasExt, cntFs, idxFs, clnFs, ovlFs, List.contains_cons, List.contains_nil, List.any_cons, List.any_nil, Nat.reduceBEq, setC, List.length_set, decide_eq_true_eq, decide_eq_false_iff_not, true_implies, false_implies, forall_const, reduceCtorEq, eq_self, Int.natCast_nonneg, Int.toNat_natCast, Int.ofNat_lt, D.int.injEq, Option.some.injEq, Nat.zero_add, Nat.add_zero, bne_iff_ne, bne_eq_false_iff_eq, beq_iff_eq, beq_eq_false_iff_ne, gt_iff_lt, ne_eq, not_true_eq_false, not_false_eq_true, planIds, hasExt, cntFs, idxFs, clnFs, ovlFs, List.contains_cons, List.contains_nil, List.any_cons, List.any_nil, Nat.reduceBEq, Nat.reduceMul, Nat.reduceAdd, ↓reduceIte, hal, h1, h3, h6, h7, h71, h72, h73, hlt, hq', Chg.enc, List.getElem?_map, set_last, get_last, it, hmx, a2, am, dUn, wrap_ok, Int.natCast_add, Int.natCast_one, Bool.not_false]
            exact ⟨r2, x2, _, _, _, rfl, rfl, hv, c2, by rw [hg, List.append_assoc], by rw [List.length_append]; simp only [List.length_cons, List.length_nil]; omega⟩
          · rw [hA] at am a2 hv hg e2
            simp only [Bool.not_true, Bool.false_eq_true, if_false, if_true, List.nil_append] at a2 hv hg e2
            cases e2 trivial
            simp (maxSteps := 1000000) (disch := omega) only [push_cast, ↓wc_seq, ↓wc_block, ↓wc_scope, ↓wc_condL, ↓wc_region, ↓wr_cons, ↓wr_consgL, ↓wr_nil, ↓wo_pickL, ↓wo_callf, ↓wc_exit, ↓wc_ret, ↓wc_skip, ↓wc_wl, wo_some, wo_none, wo_ite, opQ_eq, seqQ_normal, seqQ_exit, seqQ_ret, blockQ_normal, blockQ_exit, blockQ_ret, iterQ_normal, iterQ_exit, iterQ_ret, retQ_normal, retQ_ret, retQ_exit, pickC_true, pickC_false, pickO_true, pickO_false, gstep_tt, gstep_ff, gstep_tf, gstep_ft, gstep_skip, int_bne, int_beq, decide_not, Nat.reduceAdd, Nat.reduceMul, Nat.reduceSub, Nat.reducePow, Nat.reduceLT, Nat.reduceLeDiff, Nat.reduceEqDiff, Int.reduceToNat, Int.reduceAdd, Int.reduceSub, Int.reduceNeg, Int.reduceMul, Int.reduceLT, Int.reduceLE, Int.reduceEq, le_max, ↓wo_build, ↓wo_buildSlice, evParts, ↓reduceIte, planIds, hasExt, cntFs, idxFs, clnFs, ovlFs, List.contains_cons, List.contains_nil, List.any_cons, List.any_nil, Nat.reduceBEq, setC, List.length_set, decide_eq_true_eq, decide_eq_false_iff_not, true_implies, false_implies, forall_const, reduceCtorEq, eq_self, Int.natCast_nonneg, Int.toNat_natCast, Int.ofNat_lt, D.int.injEq, Option.some.injEq, Nat.zero_add, Nat.add_zero, bne_iff_ne, bne_eq_false_iff_eq, beq_iff_eq, beq_eq_false_iff_ne, gt_iff_lt, ne_eq, not_true_eq_false, not_false_eq_true, planIds, hasExt, cntFs, idxFs, clnFs, ovlFs, List.contains_cons, List.contains_nil, List.any_cons, List.any_nil, Nat.reduceBEq, Nat.reduceMul, Nat.reduceAdd, ↓reduceIte, hal, h1, h3, h6, h7, h71, h72, h73, hlt, hq', Chg.enc, List.getElem?_map, set_last, get_last, it, hmx, a2, am, dUn, wrap_ok, Int.natCast_add, Int.natCast_one, Bool.not_true]
            exact ⟨r2, x2, _, _, _, rfl, rfl, hv, hc.push _, hg, by omega⟩
        · rw [List.drop_length] at hv hg
          simp (maxSteps := 1000000) (disch := omega) only [push_cast, ↓wc_seq, ↓wc_block, ↓wc_scope, ↓wc_condL, ↓wc_region, ↓wr_cons, ↓wr_consgL, ↓wr_nil, ↓wo_pickL, ↓wo_callf, ↓wc_exit, ↓wc_ret, ↓wc_skip, ↓wc_wl, wo_some, wo_none, wo_ite, opQ_eq, seqQ_normal, seqQ_exit, seqQ_ret, blockQ_normal, blockQ_exit, blockQ_ret, iterQ_normal, iterQ_exit, iterQ_ret, retQ_normal, retQ_ret, retQ_exit, pickC_true, pickC_false, pickO_true, pickO_false, gstep_tt, gstep_ff, gstep_tf, gstep_ft, gstep_skip, int_bne, int_beq, decide_not, Nat.reduceAdd, Nat.reduceMul, Nat.reduceSub, Nat.reducePow, Nat.reduceLT, Nat.reduceLeDiff, Nat.reduceEqDiff, Int.reduceToNat, Int.reduceAdd, Int.reduceSub, Int.reduceNeg, Int.reduceMul, Int.reduceLT, Int.reduceLE, Int.reduceEq, le_max, ↓wo_build, ↓wo_buildSlice, evParts, ↓reduceIte, planIds, hasExt, cntFs, idxFs, clnFs, ovlFs, List.contains_cons, List.contains_nil, List.any_cons, List.any_nil, Nat.reduceBEq, setC, List.length_set, decide_eq_true_eq, decide_eq_false_iff_not, true_implies, false_implies, forall_const, reduceCtorEq, eq_self, Int.natCast_nonneg, Int.toNat_natCast, Int.ofNat_lt, D.int.injEq, Option.some.injEq, Nat.zero_add, Nat.add_zero, bne_iff_ne, bne_eq_false_iff_eq, beq_iff_eq, beq_eq_false_iff_ne, gt_iff_lt, ne_eq, not_true_eq_false, not_false_eq_true, planIds, hasExt, cntFs, idxFs, clnFs, ovlFs, List.contains_cons, List.contains_nil, List.any_cons, List.any_nil, Nat.reduceBEq, Nat.reduceMul, Nat.reduceAdd, ↓reduceIte, hal, h1, h3, h6, h7, h71, h72, h73, Nat.lt_irrefl]
          refine ⟨by rw [hv]; rfl, by rw [hv]; rfl, hr, hx, ?_⟩
          rw [hg, show taxesF ts.length [] = [] from rfl, List.append_nil]
          exact hc
  generalize hq2 : taxS f (amtB f) ts = q2
  obtain ⟨v2, w2⟩ := q2
  generalize hg6 : g5 ++ taxesF 0 ts = g6
  have l6 : g6.length ≤ 85 := by
    rw [← hg6, List.length_append]
    have := taxesF_len ts 0
    omega
  clear hal h1 h3 h6 h7 hr hx hc
  rintro a2 T ⟨hal, h1, h3, h6, h7, hr, hx, hc⟩
  refine wc_scut (fun a2 T => a2.length = 111 ∧ a2[1]? = some (.loc p 0 0) ∧ a2[3]? = some (.loc o 0 0) ∧ T[p]? = some (.row 10 [tkR n l pa b c dc f dt tot iss]) ∧ ExtS S T ∧ CellB p T o (g6 ++ ifF (w2 && !decide (v2 = tot)) 36 (ByteArray.mk #[116, 111, 116, 97, 108]))) ?_ ?_
  · obtain ⟨T2, a2', c2, k2, -⟩ := fadd_c (n := 901) (by omega) (b := w2 && !decide (v2 = tot)) (e := 36) (s := ByteArray.mk #[116, 111, 116, 97, 108]) hc (by omega)
    have r2 := k2.1 p 10 _ (by decide) hpo hr
    have x2 := hx.keep hp k2
    rw [tkR] at hr
    rw [ifF_eq] at c2
    cases w2
    · rw [Bool.false_and] at a2' c2
      simp (maxSteps := 1000000) (disch := omega) only [push_cast, ↓wc_seq, ↓wc_block, ↓wc_scope, ↓wc_condL, ↓wc_region, ↓wr_cons, ↓wr_consgL, ↓wr_nil, ↓wo_pickL, ↓wo_callf, ↓wc_exit, ↓wc_ret, ↓wc_skip, ↓wc_wl, wo_some, wo_none, wo_ite, opQ_eq, seqQ_normal, seqQ_exit, seqQ_ret, blockQ_normal, blockQ_exit, blockQ_ret, iterQ_normal, iterQ_exit, iterQ_ret, retQ_normal, retQ_ret, retQ_exit, pickC_true, pickC_false, pickO_true, pickO_false, gstep_tt, gstep_ff, gstep_tf, gstep_ft, gstep_skip, int_bne, int_beq, decide_not, Nat.reduceAdd, Nat.reduceMul, Nat.reduceSub, Nat.reducePow, Nat.reduceLT, Nat.reduceLeDiff, Nat.reduceEqDiff, Int.reduceToNat, Int.reduceAdd, Int.reduceSub, Int.reduceNeg, Int.reduceMul, Int.reduceLT, Int.reduceLE, Int.reduceEq, le_max, ↓wo_build, ↓wo_buildSlice, evParts, ↓reduceIte, planIds, hasExt, cntFs, idxFs, clnFs, ovlFs, List.contains_cons, List.contains_nil, List.any_cons, List.any_nil, Nat.reduceBEq, setC, List.length_set, decide_eq_true_eq, decide_eq_false_iff_not, true_implies, false_implies, forall_const, reduceCtorEq, eq_self, Int.natCast_nonneg, Int.toNat_natCast, Int.ofNat_lt, D.int.injEq, Option.some.injEq, Nat.zero_add, Nat.add_zero, bne_iff_ne, bne_eq_false_iff_eq, beq_iff_eq, beq_eq_false_iff_ne, gt_iff_lt, ne_eq, not_true_eq_false, not_false_eq_true, planIds, hasExt, cntFs, idxFs, clnFs, ovlFs, List.contains_cons, List.contains_nil, List.any_cons, List.any_nil, Nat.reduceBEq, Nat.reduceMul, Nat.reduceAdd, ↓reduceIte, hal, h1, h3, h6, h7, hr, a2', dUn, Bool.not_true, Bool.false_and]
      exact ⟨r2, x2, c2⟩
    · rw [Bool.true_and] at a2' c2
      simp (maxSteps := 1000000) (disch := omega) only [push_cast, ↓wc_seq, ↓wc_block, ↓wc_scope, ↓wc_condL, ↓wc_region, ↓wr_cons, ↓wr_consgL, ↓wr_nil, ↓wo_pickL, ↓wo_callf, ↓wc_exit, ↓wc_ret, ↓wc_skip, ↓wc_wl, wo_some, wo_none, wo_ite, opQ_eq, seqQ_normal, seqQ_exit, seqQ_ret, blockQ_normal, blockQ_exit, blockQ_ret, iterQ_normal, iterQ_exit, iterQ_ret, retQ_normal, retQ_ret, retQ_exit, pickC_true, pickC_false, pickO_true, pickO_false, gstep_tt, gstep_ff, gstep_tf, gstep_ft, gstep_skip, int_bne, int_beq, decide_not, Nat.reduceAdd, Nat.reduceMul, Nat.reduceSub, Nat.reducePow, Nat.reduceLT, Nat.reduceLeDiff, Nat.reduceEqDiff, Int.reduceToNat, Int.reduceAdd, Int.reduceSub, Int.reduceNeg, Int.reduceMul, Int.reduceLT, Int.reduceLE, Int.reduceEq, le_max, ↓wo_build, ↓wo_buildSlice, evParts, ↓reduceIte, planIds, hasExt, cntFs, idxFs, clnFs, ovlFs, List.contains_cons, List.contains_nil, List.any_cons, List.any_nil, Nat.reduceBEq, setC, List.length_set, decide_eq_true_eq, decide_eq_false_iff_not, true_implies, false_implies, forall_const, reduceCtorEq, eq_self, Int.natCast_nonneg, Int.toNat_natCast, Int.ofNat_lt, D.int.injEq, Option.some.injEq, Nat.zero_add, Nat.add_zero, bne_iff_ne, bne_eq_false_iff_eq, beq_iff_eq, beq_eq_false_iff_ne, gt_iff_lt, ne_eq, not_true_eq_false, not_false_eq_true, planIds, hasExt, cntFs, idxFs, clnFs, ovlFs, List.contains_cons, List.contains_nil, List.any_cons, List.any_nil, Nat.reduceBEq, Nat.reduceMul, Nat.reduceAdd, ↓reduceIte, hal, h1, h3, h6, h7, hr, a2', dUn, Bool.not_true, Bool.true_and]
      exact ⟨r2, x2, c2⟩
  generalize hg7 : g6 ++ ifF (w2 && !decide (v2 = tot)) 36 (ByteArray.mk #[116, 111, 116, 97, 108]) = g7
  have l7 : g7.length ≤ 86 := by
    have := ifF_len (w2 && !decide (v2 = tot)) 36 (ByteArray.mk #[116, 111, 116, 97, 108])
    rw [← hg7, List.length_append]; omega
  clear hal h1 h3 h6 h7 hr hx hc
  rintro a2 T ⟨hal, h1, h3, hr, hx, hc⟩
  refine wc_scut (fun a2 T => a2.length = 111 ∧ a2[3]? = some (.loc o 0 0) ∧ ExtS S T ∧ CellB p T o (g7 ++ ifF (!dayB iss) 12 (ByteArray.mk #[105, 115, 115, 117, 101, 100]))) ?_ ?_
  · obtain ⟨T2, a2', c2, k2, -⟩ := fadd_c (n := 901) (by omega) (b := !dayB iss) (e := 12) (s := ByteArray.mk #[105, 115, 115, 117, 101, 100]) hc (by omega)
    have x2 := hx.keep hp k2
    rw [tkR] at hr
    simp (maxSteps := 1000000) (disch := omega) only [push_cast, ↓wc_seq, ↓wc_block, ↓wc_scope, ↓wc_condL, ↓wc_region, ↓wr_cons, ↓wr_consgL, ↓wr_nil, ↓wo_pickL, ↓wo_callf, ↓wc_exit, ↓wc_ret, ↓wc_skip, ↓wc_wl, wo_some, wo_none, wo_ite, opQ_eq, seqQ_normal, seqQ_exit, seqQ_ret, blockQ_normal, blockQ_exit, blockQ_ret, iterQ_normal, iterQ_exit, iterQ_ret, retQ_normal, retQ_ret, retQ_exit, pickC_true, pickC_false, pickO_true, pickO_false, gstep_tt, gstep_ff, gstep_tf, gstep_ft, gstep_skip, int_bne, int_beq, decide_not, Nat.reduceAdd, Nat.reduceMul, Nat.reduceSub, Nat.reducePow, Nat.reduceLT, Nat.reduceLeDiff, Nat.reduceEqDiff, Int.reduceToNat, Int.reduceAdd, Int.reduceSub, Int.reduceNeg, Int.reduceMul, Int.reduceLT, Int.reduceLE, Int.reduceEq, le_max, ↓wo_build, ↓wo_buildSlice, evParts, ↓reduceIte, planIds, hasExt, cntFs, idxFs, clnFs, ovlFs, List.contains_cons, List.contains_nil, List.any_cons, List.any_nil, Nat.reduceBEq, setC, List.length_set, decide_eq_true_eq, decide_eq_false_iff_not, true_implies, false_implies, forall_const, reduceCtorEq, eq_self, Int.natCast_nonneg, Int.toNat_natCast, Int.ofNat_lt, D.int.injEq, Option.some.injEq, Nat.zero_add, Nat.add_zero, bne_iff_ne, bne_eq_false_iff_eq, beq_iff_eq, beq_eq_false_iff_ne, gt_iff_lt, ne_eq, not_true_eq_false, not_false_eq_true, planIds, hasExt, cntFs, idxFs, clnFs, ovlFs, List.contains_cons, List.contains_nil, List.any_cons, List.any_nil, Nat.reduceBEq, Nat.reduceMul, Nat.reduceAdd, ↓reduceIte, hal, h1, h3, hr, dy, a2', dUn]
    exact ⟨x2, c2⟩
  rintro a2 T ⟨hal, h3, hx, hc⟩
  obtain ⟨-, d, hd, hgv, hge⟩ := hc
  simp (maxSteps := 1000000) (disch := omega) only [push_cast, ↓wc_seq, ↓wc_block, ↓wc_scope, ↓wc_condL, ↓wc_region, ↓wr_cons, ↓wr_consgL, ↓wr_nil, ↓wo_pickL, ↓wo_callf, ↓wc_exit, ↓wc_ret, ↓wc_skip, ↓wc_wl, wo_some, wo_none, wo_ite, opQ_eq, seqQ_normal, seqQ_exit, seqQ_ret, blockQ_normal, blockQ_exit, blockQ_ret, iterQ_normal, iterQ_exit, iterQ_ret, retQ_normal, retQ_ret, retQ_exit, pickC_true, pickC_false, pickO_true, pickO_false, gstep_tt, gstep_ff, gstep_tf, gstep_ft, gstep_skip, int_bne, int_beq, decide_not, Nat.reduceAdd, Nat.reduceMul, Nat.reduceSub, Nat.reducePow, Nat.reduceLT, Nat.reduceLeDiff, Nat.reduceEqDiff, Int.reduceToNat, Int.reduceAdd, Int.reduceSub, Int.reduceNeg, Int.reduceMul, Int.reduceLT, Int.reduceLE, Int.reduceEq, le_max, ↓wo_build, ↓wo_buildSlice, evParts, ↓reduceIte, planIds, hasExt, cntFs, idxFs, clnFs, ovlFs, List.contains_cons, List.contains_nil, List.any_cons, List.any_nil, Nat.reduceBEq, setC, List.length_set, decide_eq_true_eq, decide_eq_false_iff_not, true_implies, false_implies, forall_const, reduceCtorEq, eq_self, Int.natCast_nonneg, Int.toNat_natCast, Int.ofNat_lt, D.int.injEq, Option.some.injEq, Nat.zero_add, Nat.add_zero, bne_iff_ne, bne_eq_false_iff_eq, beq_iff_eq, beq_eq_false_iff_ne, gt_iff_lt, ne_eq, not_true_eq_false, not_false_eq_true, planIds, hasExt, cntFs, idxFs, clnFs, ovlFs, List.contains_cons, List.contains_nil, List.any_cons, List.any_nil, Nat.reduceBEq, Nat.reduceMul, Nat.reduceAdd, ↓reduceIte, hal, h3, hd, Tryd.f64]
  refine ⟨Eq.subst (motive := fun x => GV T d x) ?_ hgv, hx, fun k n e => (hge k n e).1⟩
  rw [← hg7, ← hg6, ← hg5]
end Go.Proofs.YteffefjkcappbaaDoor.Dm
